/- EvE: a part of the proof that each law of this seat answers true at every input. No condition. -/
import Derived.Test.YtjnkigaiogjfcaaDoorEvD
set_option linter.unusedVariables false
set_option linter.unusedSimpArgs false
section
/- The operations by name, with what the types say already looked up: what printed texts are made of. -/
namespace Go.Ev
set_option linter.unusedVariables false

def cAt : List Nat → Code → Code
 | [], c => c
 | i :: p, c => match c with
  | .seq a b => cAt p (if i = 0 then a else b)
  | .cond _ a b => cAt p (if i = 0 then a else b)
  | .block _ b | .loop b | .scope b => cAt p b
  | c => c

def bodyOf (fn : Func) : Code :=
 match fn.body with
 | some c => c
 | none => .skip

/-- A new variable. -/
def rVar (H : Heap) (x : V) : Option (V × Heap) := newVar H x
def rMove (x : V) : Option V := some x
def rIface (t : TypeId) (x : V) : Option V := some (.iface t x)
def rMkFn (f : FuncId) (cap : List V) : Option V := some (.fn f cap)
def rLenA (n : Nat) : Option V := some (.int .i64 n)
def rPick (c a b : V) : Option V :=
 match c with
 | .bool true => some a
 | .bool false => some b
 | _ => none
def rBuild (z : List V) (pl : List (Nat × Nat)) (ps : List (Nat × V)) : Option V := (fillV (fun i => pl[i]?) z ps).map .agg
def rBuildA (z : List V) (n : Nat) (ps : List (Nat × V)) : Option V := (fillV (fun i => some (i * n, n)) z ps).map .agg
def rNil (x : V) : Option V :=
 match x with
 | .ptr i v o => some (.ptr i v o)
 | .fptr cs => some (.fptr cs)
 | _ => none
def noOfKind : IntKind → Nat
 | .i8 => 0 | .i16 => 1 | .i32 => 2 | .i64 => 3 | .u8 => 4 | .u16 => 5 | .u32 => 6 | .u64 => 7
def kindOfNo : Nat → IntKind
 | 0 => .i8 | 1 => .i16 | 2 => .i32 | 3 => .i64 | 4 => .u8 | 5 => .u16 | 6 => .u32 | _ => .u64
/-- Two arrays of so many numbers of a kind. -/
def rEqA (n : Nat) (k : IntKind) (x y : V) : Option Bool :=
 match x, y with
 | .agg xs, .agg ys => if xs.length = n ∧ ys.length = n ∧ intsL k xs = true ∧ intsL k ys = true then some (beqL xs ys) else none
 | _, _ => none
/-- What is known of the operands' type: 0 bool, 1 slice, 2 pointer, 3 interface, 4 map, 5 func, 6 another; more: an array of so many numbers of a kind. -/
def rEq (k : Nat) (x y : V) : Option Bool :=
 match k with
 | 0 => match x, y with
  | .bool a, .bool b => some (a == b)
  | _, _ => none
 | 1 => match x, y with
  | .nils, .nils => some true
  | .nils, .rs _ _ _ _ _ | .rs _ _ _ _ _, .nils => some false
  | .nils, .vs (_ :: _) | .vs (_ :: _), .nils => some false
  | _, _ => none
 | 2 => match x, y with
  | .nilptr, .nilptr => some true
  | .nilptr, .ptr _ _ _ | .ptr _ _ _, .nilptr | .nilptr, .fptr _ | .fptr _, .nilptr => some false
  | _, _ => none
 | 3 => match x, y with
  | .niface, .iface _ _ | .iface _ _, .niface => some false
  | _, _ => none
 | 4 => match x, y with
  | .nilmap, .nilmap => some true
  | .nilmap, .mapr _ | .mapr _, .nilmap => some false
  | _, _ => none
 | 5 => match x, y with
  | .nilfn, .nilfn => some true
  | .nilfn, .fn _ _ | .fn _ _, .nilfn => some false
  | _, _ => none
 | 6 => none
 | m + 7 => rEqA (m / 8) (kindOfNo (m % 8)) x y
/-- e: are they equal, where they are neither numbers nor strings. -/
def vBinE (e : Option Bool) (op : BinOp) (x y : V) : Option V :=
 match op with
 | .shl | .shr => match x, y with
  | .int k a, .int _ b => vShift op k a b
  | _, _ => none
 | _ => match x, y with
  | .int k a, .int l b => if k = l then vBinInt op k a b else none
  | .str a, .str b => vBinStr op a b
  | _, _ => match op with
   | .eql => e.map .bool
   | .neq => e.map fun b => .bool !b
   | _ => none
def rBin0 (op : BinOp) (k : Nat) (x y : V) : Option V := vBinE (rEq k x y) op x y
def rBin (op : BinOp) (k : Nat) (x y : V) : Option V :=
 match rBin0 op k x y with
 | some v => some v
 | none => none
/-- c: one of the two is the literal nil (of an interface). -/
def rNilIf (op : BinOp) (c : Bool) (a b : V) : Option V :=
 match a, b with
 | .niface, .niface => match c with
  | true => match op with
   | .eql => some (.bool true)
   | .neq => some (.bool false)
   | _ => none
  | false => none
 | _, _ => none
def rBinI (op : BinOp) (c : Bool) (x y : V) : Option V :=
 match rBin0 op 3 x y with
 | some v => some v
 | none => rNilIf op c x y
def rIntTo (k : IntKind) (x : V) : Option V :=
 match x with
 | .int _ n => some (.int k (k.wrap n))
 | _ => none
def rToStr (x : V) : Option V :=
 match x with
 | .int _ n => some (.str (Utf8.encode n).data.toList)
 | .str s => some (.str s)
 | _ => none
def rField (off : Nat) (ag : Bool) (n : Nat) (x : V) : Option V :=
 match x with
 | .agg cs => if off + n ≤ cs.length then takeCells ag n (cs.drop off) else none
 | _ => none
def rIndexPtr (n : Nat) (x i : V) : Option V := (asNat i).bind fun k => indexPtr n x k
def rIndexPtrA (len n : Nat) (x i : V) : Option V := (asNat i).bind fun k => if k < len then fieldPtr x (k * n) else none
def rIndexStr (x i : V) : Option V :=
 match x with
 | .str s => (asNat i).bind fun k => (s[k]?).map fun b => .int .u8 b.toNat
 | _ => none
def rIndexA (len : Nat) (ag : Bool) (n : Nat) (x i : V) : Option V := (asNat i).bind fun k =>
 match x with
 | .agg cs => if k < len then (if k * n + n ≤ cs.length then takeCells ag n (cs.drop (k * n)) else none) else none
 | _ => none
def rExtract (x : V) (i : Nat) : Option V :=
 match x with
 | .tup vs => vs[i]?
 | _ => none
def rAssert (ty : TypeId) (x : V) : Option V :=
 match x with
 | .iface u v => if u = ty then some v else none
 | _ => none
def rAssert2 (ty : TypeId) (z : V) (x : V) : Option V :=
 match x with
 | .iface u v => if u = ty then some (.tup [v, .bool true]) else some (.tup [z, .bool false])
 | .niface => some (.tup [z, .bool false])
 | _ => none
def rLenStr (x : V) : Option V :=
 match x with
 | .str s => some (.int .i64 s.length)
 | _ => none
def rLenSl (x : V) : Option V := (slLen x).map fun n => .int .i64 n
def rStore (base n : Nat) (H : Heap) (p x : V) : Option (V × Heap) := (storeV base n H p x).map fun H' => (.tup [], H')
def rText (H : Heap) (x : V) : Option V := (slCells 1 H x).bind fun cs => (bytesOf cs).map .str
def rBytes (x : V) (H : Heap) : Option (V × Heap) :=
 match x with
 | .str s => rowOf H 1 false (bytesV s) s.length
 | _ => none
def rRow (len n : Nat) (ag : Bool) (cs : List V) (H : Heap) (ps : List (Nat × V)) : Option (V × Heap) :=
 (fillV (fun i => some (i * n, n)) cs ps).bind fun cs => rowOf H n ag cs len
def rMake (n : Nat) (ag : Bool) (by_ : Nat) (z : List V) (l c : V) (H : Heap) : Option (V × Heap) :=
 (asNat l).bind fun len => (asNat c).bind fun cap => if len = cap ∧ roomOk cap by_ = true ∧ len ≤ 9223372036854775807 then rowOf H n ag (repl len z) len else none
def rLit (n len : Nat) (z : V) (ps : List (Nat × V)) : Option V :=
 if okParts n len ps = true then some (.vs (setAll (List.replicate len z) ps)) else none
def rAppend (base n by_ : Nat) (ag : Bool) (s x : V) (H : Heap) : Option (V × Heap) := (slLen x).bind fun k => (slCells n H x).bind fun new => appendV base H n by_ ag s new k
def rAppendS (base n by_ : Nat) (ag : Bool) (s x : V) (H : Heap) : Option (V × Heap) :=
 match x with
 | .str b => appendV base H n by_ ag s (bytesV b) b.length
 | _ => none
def rFn (f : V) (args : List V) : Option (FuncId × List V) :=
 match f with
 | .fn g cap => some (g, args ++ cap)
 | _ => none
def rPanic (x : V) : Option V :=
 match x with
 | .iface ty v => some (.iface ty v)
 | _ => none
def rKey (k : Nat) (v : V) : Bool :=
 match k, v with
 | 0, .int _ _ | 1, .str _ | 2, .bool _ => true
 | _, _ => false
def rLookup (kk : Nat) (z : V) (H : Heap) (m k : V) : Option V :=
 match rKey kk k with
 | true => (mapOf H m).bind fun es => (findV k es 0).bind fun r => match r with
  | some (_, v) => some v
  | none => some z
 | false => none
def rLookup2 (kk : Nat) (z : V) (H : Heap) (m k : V) : Option V :=
 match rKey kk k with
 | true => (mapOf H m).bind fun es => (findV k es 0).bind fun r => match r with
  | some (_, v) => some (.tup [v, .bool true])
  | none => some (.tup [z, .bool false])
 | false => none

def rSliceA (n len : Nat) (ag : Bool) (x : V) (lo hi mx : Option V) (H : Heap) : Option (V × Heap) := sliceA H n len ag x lo hi mx
def rClear (base n : Nat) (z : List V) (x : V) (H : Heap) : Option (V × Heap) := clearV base H n z x
def rCopy (base n : Nat) (d x : V) (H : Heap) : Option (V × Heap) := (slLen x).bind fun k => (slCells n H x).bind fun new => copyV base H n new k d
end Go.Ev
end

section
/- The operations, types first: each comes to one named operation. -/
namespace Go.Ev
set_option linter.unusedVariables false
variable {P : Program}

def eqKindOf (P : Program) (ty : TypeId) : Nat :=
 match P.underlying ty with
 | some .bool => 0
 | some (.slice _) => 1
 | some (.pointer _) => 2
 | some (.interface _) => 3
 | some (.map _ _) => 4
 | some (.func _ _ _) => 5
 | some (.array n e) => match P.underlying e with
  | some (.int k) => match tSize P e, tAgg P e with
   | some 1, some false => n * 8 + noOfKind k + 7
   | _, _ => 6
  | _ => 6
 | _ => 6

def evPureR (P : Program) (t : List V) : Op → Option V
 | .move x | .assign x => rMove (env t x)
 | .pick c a b => rPick (env t c) (env t a) (env t b)
 | .build ty parts => match P.underlying ty with
  | some (.struct fs) => match tZero P ty with
   | some z => match placesL P fs.toList with
    | some pl => match scalL z.cells with
     | true => rBuild z.cells pl (evParts t parts.toList)
     | false => none
    | none => none
   | none => none
  | some (.array _ e) => match tZero P ty with
   | some z => match tSize P e with
    | some n => match scalL z.cells with
     | true => rBuildA z.cells n (evParts t parts.toList)
     | false => none
    | none => none
   | none => none
  | _ => none
 | .nilCheck x => rNil (env t x)
 | .binOp op ty x y _ => match eqKindOf P ty with
  | 3 => rBinI op (Region.isConst x || Region.isConst y) (env t x) (env t y)
  | k => rBin op k (env t x) (env t y)
 | .unOp op _ x => vUn op (env t x)
 | .convert src dst x => match (P.underlying src).isSome with
  | true => match P.underlying dst with
   | some (.int k) => rIntTo k (env t x)
   | some .string => rToStr (env t x)
   | _ => none
  | false => none
 | .makeInterface ty x => match P.underlying ty with
  | some (.interface _) => none
  | some _ => rIface ty (env t x)
  | none => none
 | .makeFunc fn first cap => match fn with
  | .func f => match first.size with
   | 0 => rMkFn f (envs t cap.toList)
   | _ => none
  | _ => none
 | .slice ty x lo hi mx => match P.underlying ty with
  | some .string => vSliceStr (env t x) (lo.map (env t)) (hi.map (env t)) (mx.map (env t))
  | some (.slice e) => match tSize P e with
   | some n => vSlice n (env t x) (lo.map (env t)) (hi.map (env t)) (mx.map (env t))
   | none => none
  | _ => none
 | .fieldAddr ty x f => match tField P ty f with
  | some r => match tSize P r.2 with
   | some (_ + 1) => fieldPtr (env t x) r.1
   | _ => none
  | none => none
 | .field ty x f => match tField P ty f with
  | some r => match tAgg P r.2 with
   | some ag => match tSize P r.2 with
    | some n => rField r.1 ag n (env t x)
    | none => none
   | none => none
  | none => none
 | .indexAddr ty x i => match P.underlying ty with
  | some (.slice e) => match tSize P e with
   | some n => rIndexPtr n (env t x) (env t i)
   | none => none
  | some (.array len e) => match tSize P e with
   | some (n + 1) => rIndexPtrA len (n + 1) (env t x) (env t i)
   | _ => none
  | _ => none
 | .index ty x i => match P.underlying ty with
  | some .string => rIndexStr (env t x) (env t i)
  | some (.array len e) => match tAgg P e with
   | some ag => match tSize P e with
    | some n => rIndexA len ag n (env t x) (env t i)
    | none => none
   | none => none
  | _ => none
 | .extract x i => rExtract (env t x) i
 | .typeAssert x _ ty ok => match P.underlying ty with
  | some (.interface _) => none
  | some _ => match ok with
   | true => match tZero P ty with
    | some z => rAssert2 ty z (env t x)
    | none => none
   | false => rAssert ty (env t x)
  | none => none
 | .call c => match c.callee with
  | .builtin .len => match c.argTypes[0]?, c.args[0]? with
   | some ty, some x => match P.underlying ty with
    | some .string => rLenStr (env t x)
    | some (.slice _) => rLenSl (env t x)
    | some (.array n _) => rLenA n
    | _ => none
   | _, _ => none
  | .builtin .min => vFold vMin (envs t c.args.toList)
  | .builtin .max => vFold vMax (envs t c.args.toList)
  | _ => none
 | _ => none

theorem noOfKind_lt (k : IntKind) : noOfKind k < 8 := by cases k <;> decide
theorem kindOfNo_of (k : IntKind) : kindOfNo (noOfKind k) = k := by cases k <;> rfl
theorem rEq_arr (n : Nat) (k : IntKind) (x y : V) : rEq (n * 8 + noOfKind k + 7) x y = rEqA n k x y := by
 have h1 : (n * 8 + noOfKind k) / 8 = n := by have := noOfKind_lt k; omega
 have h2 : (n * 8 + noOfKind k) % 8 = noOfKind k := by have := noOfKind_lt k; omega
 show rEqA ((n * 8 + noOfKind k) / 8) (kindOfNo ((n * 8 + noOfKind k) % 8)) x y = _
 rw [h1, h2, kindOfNo_of]
theorem rEq_vEq {ty : TypeId} {x y : V} {b : Bool} (h : rEq (eqKindOf P ty) x y = some b) : vEq P ty x y = some b := by
 unfold eqKindOf at h
 unfold vEq
 split at h
 case h_7 n e hu =>
  simp only [hu]
  split at h
  ·rename_i k he
   simp only [he]
   split at h
   ·rename_i hs ha
    rw [rEq_arr] at h
    unfold rEqA at h
    split at h
    ·split at h
     ·rename_i hc
      simp only [hs, ha, hc, and_self, if_true]
      exact h
     ·simp at h
    ·simp at h
   ·simp [rEq] at h
  ·simp [rEq] at h
 all_goals (rename_i hu; simp only [hu])
 all_goals (try exact h)
 all_goals (simp [rEq] at h)
theorem vBin_E (op : BinOp) (ty : TypeId) (x y : V) : vBin P op ty x y = vBinE (vEq P ty x y) op x y := by
 cases op <;> rfl
theorem vBinE_mono {e e' : Option Bool} (he : ∀ b, e = some b → e' = some b) {op : BinOp} {x y v : V} (h : vBinE e op x y = some v) : vBinE e' op x y = some v := by
 cases e with
 | some b => rw [he b rfl]; exact h
 | none =>
  revert h
  unfold vBinE
  split
  ·exact id
  ·exact id
  ·split
   ·exact id
   ·exact id
   ·split <;> simp
theorem rBin0_vBin {op : BinOp} {ty : TypeId} {x y v : V} (h : rBin0 op (eqKindOf P ty) x y = some v) : vBin P op ty x y = some v := by
 rw [vBin_E]
 exact vBinE_mono (fun b hb => rEq_vEq hb) h

theorem pureR_pure {t : List V} {op : Op} {v : V} (h : evPureR P t op = some v) : evPure P t op = some v := by
 cases op <;> simp only [evPureR] at h <;> simp only [evPure] <;> (try (simp at h; done)) <;> (try exact h)
 case build ty parts =>
  split at h
  ·rename_i fs hu
   split at h
   ·rename_i z hz
    split at h
    ·rename_i pl hp
     split at h
     ·rename_i hs
      simp only [hz, hu, hp, hs, Option.bind_some, if_true]
      exact h
     ·simp at h
    ·simp at h
   ·simp at h
  ·rename_i n e hu
   split at h
   ·rename_i z hz
    split at h
    ·rename_i n hp
     split at h
     ·rename_i hs
      simp only [hz, hu, hp, hs, Option.bind_some, if_true]
      exact h
     ·simp at h
    ·simp at h
   ·simp at h
  ·simp at h
 case binOp op ty x y c =>
  split at h
  ·rename_i hk
   unfold rBinI at h
   split at h
   ·rename_i v' hv
    rw [← hk] at hv
    rw [rBin0_vBin hv]
    exact h
   ·rename_i hv
    have hu : ∃ m, P.underlying ty = some (.interface m) := by
     unfold eqKindOf at hk
     split at hk <;> first
      | (rename_i hu; exact ⟨_, hu⟩)
      | (simp at hk; done)
      | (exfalso; revert hk; split <;> (try split) <;> simp)
    obtain ⟨m, hu⟩ := hu
    have hn : vBin P op ty (env t x) (env t y) = none := by
     rw [vBin_E]
     unfold rBin0 at hv
     have : vEq P ty (env t x) (env t y) = rEq 3 (env t x) (env t y) := by
      unfold vEq; rw [hu]; rfl
     rw [this]; exact hv
    rw [hn]
    unfold rNilIf at h
    unfold vNilIface
    rw [hu]
    split at h
    ·rename_i h1 h2
     rw [h1, h2]
     split at h
     ·rename_i hc
      simp only [hc, if_true]
      exact h
     ·simp at h
    ·simp at h
  ·unfold rBin at h
   split at h
   ·rename_i v' hv
    rw [rBin0_vBin hv]
    exact h
   ·simp at h
 case makeFunc fn first cap =>
  split at h
  ·split at h
   ·rename_i hs
    simp only [hs, if_true]; exact h
   ·simp at h
  ·simp at h
 case convert src dst x =>
  split at h
  ·rename_i hs
   rw [if_pos hs]
   split at h
   ·rename_i k hu
    unfold rIntTo at h
    split at h
    ·rename_i hx; rw [hx]; simp only [vConvInt, hu]; exact h
    ·simp at h
   ·rename_i hu
    unfold rToStr at h
    split at h
    ·rename_i hx; rw [hx]; simp only [vConvInt, hu]; exact h
    ·rename_i hx; rw [hx]; simp only [hu]; exact h
    ·simp at h
   ·simp at h
  ·simp at h
 case slice ty x lo hi mx =>
  split at h
  ·rename_i hu; simp only [hu]; exact h
  ·rename_i e hu
   split at h
   ·rename_i n hn
    simp only [hu, hn, Option.bind_some]
    exact h
   ·simp at h
  ·simp at h
 case fieldAddr ty x f =>
  split at h
  ·rename_i r hf
   split at h
   ·rename_i n hn
    simp only [hf, hn, Option.bind_some, Nat.succ_pos, if_true]
    exact h
   ·simp at h
  ·simp at h
 case field ty x f =>
  split at h
  ·rename_i r hf
   split at h
   ·rename_i ag ha
    split at h
    ·rename_i n hn
     unfold rField at h
     split at h
     ·rename_i cs hx
      simp only [hf, hx, partV, ha, hn, Option.bind_some]
      exact h
     ·simp at h
    ·simp at h
   ·simp at h
  ·simp at h
 case indexAddr ty x i =>
  split at h
  ·rename_i e hu
   split at h
   ·rename_i n hn
    simp only [hu, hn, Option.bind_some]
    exact h
   ·simp at h
  ·rename_i len e hu
   split at h
   ·rename_i n hn
    simp only [hu, hn, Option.bind_some]
    unfold rIndexPtrA at h
    obtain ⟨k, h1, h2⟩ := Option.bind_eq_some_iff.1 h
    rw [h1]
    simp only [Option.bind_some, Nat.succ_pos, and_true]
    exact h2
   ·simp at h
  ·simp at h
 case index ty x i =>
  split at h
  ·rename_i hu
   simp only [hu]
   unfold rIndexStr at h
   split at h
   ·rename_i s hx; rw [hx]; exact h
   ·simp at h
  ·rename_i len e hu
   simp only [hu]
   split at h
   ·rename_i ag ha
    split at h
    ·rename_i n hn
     unfold rIndexA at h
     obtain ⟨k, h1, h2⟩ := Option.bind_eq_some_iff.1 h
     split at h2
     ·rename_i cs hx
      simp only [hn, h1, hx, partV, ha, Option.bind_some]
      exact h2
     ·simp at h2
    ·simp at h
   ·simp at h
  ·simp at h
 case typeAssert x src ty ok =>
  split at h
  ·simp at h
  ·rename_i u hne hu
   rw [hu]
   cases u with
   | interface m => exact (hne m rfl).elim
   | _ =>
    split at h
    ·split at h
     ·rename_i z hz
      unfold rAssert2 at h
      split at h
      ·rename_i u' v' hx
       rw [hx]
       simp only [hz, if_true, Option.map_some]
       exact h
      ·rename_i hx
       rw [hx]
       simp only [hz, if_true, Option.map_some]
       exact h
      ·simp at h
     ·simp at h
    ·unfold rAssert at h
     split at h
     ·rename_i u' v' hx
      rw [hx]
      simp only [Bool.false_eq_true, if_false]
      exact h
     ·simp at h
  ·simp at h

end Go.Ev
end

section
/- Operations on memory, types first. -/
namespace Go.Ev
set_option linter.unusedVariables false
variable {P : Program}

def keyKind (P : Program) (ty : TypeId) : Nat :=
 match P.underlying ty with
 | some (.int _) => 0
 | some .string => 1
 | some .bool => 2
 | _ => 9

def evLoadR (P : Program) (t : List V) (H : Heap) : Op → Option V
 | .load ty p => match tAgg P ty with
  | some ag => match tSize P ty with
   | some n => loadV ag n H (env t p)
   | none => none
  | none => none
 | .convert src dst x => match P.underlying src with
  | some (.slice e) => match P.underlying dst with
   | some .string => match P.underlying e with
    | some (.int .u8) => rText H (env t x)
    | _ => none
   | _ => none
  | _ => none
 | .lookup ty m k ok => match P.underlying ty with
  | some (.map kt et) => match tZero P et with
   | some z => match ok with
    | true => rLookup2 (keyKind P kt) z H (env t m) (env t k)
    | false => rLookup (keyKind P kt) z H (env t m) (env t k)
   | none => none
  | _ => none
 | _ => none

theorem rKey_ok {kt : TypeId} {k : V} (h : rKey (keyKind P kt) k = true) : okKey P kt k = true := by
 unfold keyKind at h
 split at h
 ·rename_i hu
  cases k with
  | int _ _ => simp only [okKey, hu]
  | _ => simp [rKey] at h
 ·rename_i hu
  cases k with
  | str _ => simp only [okKey, hu]
  | _ => simp [rKey] at h
 ·rename_i hu
  cases k with
  | bool _ => simp only [okKey, hu]
  | _ => simp [rKey] at h
 ·cases k <;> simp [rKey] at h

theorem loadR_load {t : List V} {H : Heap} {op : Op} {v : V} (h : evLoadR P t H op = some v) : evLoad P t H op = some v := by
 cases op <;> simp only [evLoadR] at h <;> simp only [evLoad] <;> (try (simp at h; done))
 case load ty p =>
  split at h
  ·rename_i ag ha
   split at h
   ·rename_i n hn
    simp only [ha, hn, Option.bind_some]
    exact h
   ·simp at h
  ·simp at h
 case convert src dst x =>
  split at h
  ·rename_i e hs
   split at h
   ·rename_i hd
    split at h
    ·rename_i he
     simp only [hs, hd, he]
     exact h
    ·simp at h
   ·simp at h
  ·simp at h
 case lookup ty m k ok =>
  split at h
  ·rename_i kt et hu
   split at h
   ·rename_i z hz
    unfold lookupV
    simp only [hu]
    split at h
    ·unfold rLookup2 at h
     split at h
     ·rename_i hk
      rw [if_pos (rKey_ok hk)]
      obtain ⟨es, h1, h2⟩ := Option.bind_eq_some_iff.1 h
      obtain ⟨r, h3, h4⟩ := Option.bind_eq_some_iff.1 h2
      rw [h1]
      simp only [Option.bind_some]
      rw [h3]
      simp only [Option.bind_some, hz, Option.map_some, if_true]
      cases r with
      | none => exact h4
      | some p => exact h4
     ·simp at h
    ·unfold rLookup at h
     split at h
     ·rename_i hk
      rw [if_pos (rKey_ok hk)]
      obtain ⟨es, h1, h2⟩ := Option.bind_eq_some_iff.1 h
      obtain ⟨r, h3, h4⟩ := Option.bind_eq_some_iff.1 h2
      rw [h1]
      simp only [Option.bind_some]
      rw [h3]
      simp only [Option.bind_some, hz, Option.map_some, Bool.false_eq_true, if_false]
      cases r with
      | none => exact h4
      | some p => exact h4
     ·simp at h
   ·simp at h
  ·simp at h

def evLitR (P : Program) (t : List V) : Op → Option V
 | .buildSlice ty len parts => match tElem P ty with
  | some e => match tSize P e with
   | some n => match tZero P e with
    | some z => match decide (len * n ≤ 16777216) && decide (0 < n) && (z.cells.length == n) && scalL z.cells && z.nrm.clean with
     | true => rLit n len z.nrm (evParts t parts.toList)
     | false => none
    | none => none
   | none => none
  | none => none
 | _ => none
theorem litR_lit {t : List V} {op : Op} {v : V} (h : evLitR P t op = some v) : evLit P t op = some v := by
 cases op <;> simp only [evLitR] at h <;> simp only [evLit] <;> (try (simp at h; done))
 case buildSlice ty len parts =>
  split at h
  ·rename_i e he
   split at h
   ·rename_i n hn
    split at h
    ·rename_i z hz
     split at h
     ·rename_i hk
      simp only [Bool.and_eq_true, decide_eq_true_eq, beq_iff_eq] at hk
      obtain ⟨⟨⟨⟨k1, k2⟩, k3⟩, k4⟩, k5⟩ := hk
      unfold rLit at h
      split at h
      ·rename_i hp
       simp only [he, hn, hz, Option.bind_some]
       rw [if_pos ⟨k1, k2, k3, k4, k5, hp⟩]
       exact h
      ·simp at h
     ·simp at h
    ·simp at h
   ·simp at h
  ·simp at h

def rMap (H : Heap) : Option (V × Heap) := some (.mapr H.length, .map [] :: H)
def rUpdate (base kk : Nat) (H : Heap) (m k x : V) : Option (V × Heap) :=
 match rKey kk k with
 | true => match m with
  | .mapr i => match hget H i with
   | some (.map es) => match fits base i x.maxRef with
    | true => (findV k es 0).map fun r => match r with
     | some (j, _) => (.tup [], hset H i (.map (es.set j (k, x))))
     | none => (.tup [], hset H i (.map (es ++ [(k, x)])))
    | false => none
   | _ => none
  | _ => none
 | false => none

theorem rUpdate_ok {base : Nat} {ty kt et : TypeId} {H : Heap} {m k x : V} {v : V × Heap} (hu : P.underlying ty = some (.map kt et)) (h : rUpdate base (keyKind P kt) H m k x = some v) :
  (updateV P base ty H m k x).map (fun H' => (V.tup [], H')) = some v := by
 unfold rUpdate at h
 split at h
 ·rename_i hk
  split at h
  ·rename_i i
   split at h
   ·rename_i es hg
    split at h
    ·rename_i hf
     obtain ⟨r, h1, h2⟩ := Option.map_eq_some_iff.1 h
     unfold updateV
     simp only [hu]
     rw [if_pos (rKey_ok hk)]
     simp only [hg]
     rw [if_pos hf, h1]
     cases r with
     | none => rw [← h2]; rfl
     | some p => rw [← h2]; rfl
    ·simp at h
   ·simp at h
  ·simp at h
 ·simp at h

def evEffR (P : Program) (base : Nat) (t : List V) (H : Heap) : Op → Option (V × Heap)
 | .alloc ty => match tZero P ty with
  | some z => rVar H z
  | none => none
 | .box _ x => rVar H (env t x)
 | .buildSlice ty len parts => match tElem P ty with
  | some e => match tSize P e with
   | some n => match tAgg P e with
    | some ag => match tZero P e with
     | some z => match decide (len * n ≤ 16777216) && (z.cells.length == n) && scalL z.cells with
      | true => rRow len n ag (repl len z.cells) H (evParts t parts.toList)
      | false => none
     | none => none
    | none => none
   | none => none
  | none => none
 | .makeSlice ty l c => match tElem P ty with
  | some e => match tSize P e with
   | some n => match tAgg P e with
    | some ag => match tBytes P e with
     | some by_ => match tZero P e with
      | some z => match (z.cells.length == n) && scalL z.cells with
       | true => rMake n ag by_ z.cells (env t l) (env t c) H
       | false => none
      | none => none
     | none => none
    | none => none
   | none => none
  | none => none
 | .makeMap ty r => match P.underlying ty with
  | some (.map _ _) => match r with
   | none => rMap H
   | some x => none
  | _ => none
 | .mapUpdate ty m k x | .insert ty m k x => match P.underlying ty with
  | some (.map kt _) => rUpdate base (keyKind P kt) H (env t m) (env t k) (env t x)
  | _ => none
 | .store ty p x => match tSize P ty with
  | some n => rStore base n H (env t p) (env t x)
  | none => none
 | .convert src dst x => match (P.underlying src).isSome with
  | true => match P.underlying dst with
   | some (.slice e) => match P.underlying e with
    | some (.int .u8) => rBytes (env t x) H
    | _ => none
   | _ => none
  | false => none
 | .slice ty x lo hi mx => match P.underlying ty with
  | some (.array len e) => match tSize P e with
   | some n => match tAgg P e with
    | some ag => rSliceA n len ag (env t x) (lo.map (env t)) (hi.map (env t)) (mx.map (env t)) H
    | none => none
   | none => none
  | _ => none
 | .call c => match c.callee with
  | .builtin .clear => match c.argTypes[0]?, c.args[0]? with
   | some ty, some x => match tElem P ty with
    | some e => match tSize P e with
     | some n => match tZero P e with
      | some z => rClear base n z.cells (env t x) H
      | none => none
     | none => none
    | none => none
   | _, _ => none
  | .builtin .copy => match c.argTypes[0]?, c.args[0]?, c.args[1]? with
   | some ty, some d, some x => match tElem P ty with
    | some e => match tSize P e with
     | some n => rCopy base n (env t d) (env t x) H
     | none => none
    | none => none
   | _, _, _ => none
  | .builtin .append => match c.argTypes[0]?, c.argTypes[1]?, c.args[0]?, c.args[1]? with
   | some ty, some ty2, some s, some x => match tElem P ty with
    | some e => match tSize P e with
     | some n => match tAgg P e with
      | some ag => match tBytes P e with
       | some by_ => match tZero P e with
        | some z => match (z.cells.length == n) && scalL z.cells with
         | true => match P.underlying ty2 with
          | some (.slice _) => rAppend base n by_ ag (env t s) (env t x) H
          | some .string => rAppendS base n by_ ag (env t s) (env t x) H
          | _ => none
         | false => none
        | none => none
       | none => none
      | none => none
     | none => none
    | none => none
   | _, _, _, _ => none
  | _ => none
 | _ => none

theorem effR_eff {base : Nat} {t : List V} {H : Heap} {op : Op} {v : V × Heap} (h : evEffR P base t H op = some v) : evEff P base t H op = some v := by
 cases op <;> simp only [evEffR] at h <;> simp only [evEff] <;> (try (simp at h; done)) <;> (try exact h)
 case alloc ty =>
  split at h
  ·rename_i z hz; simp only [hz, Option.bind_some]; exact h
  ·simp at h
 case buildSlice ty len parts =>
  split at h
  ·rename_i e he
   split at h
   ·rename_i n hn
    split at h
    ·rename_i ag ha
     split at h
     ·rename_i z hz
      split at h
      ·rename_i hk
       simp only [Bool.and_eq_true, decide_eq_true_eq, beq_iff_eq] at hk
       simp only [he, hn, ha, hz, Option.bind_some]
       rw [if_pos ⟨hk.1.1, hk.1.2, hk.2⟩]
       exact h
      ·simp at h
     ·simp at h
    ·simp at h
   ·simp at h
  ·simp at h
 case makeSlice ty l c =>
  split at h
  ·rename_i e he
   split at h
   ·rename_i n hn
    split at h
    ·rename_i ag ha
     split at h
     ·rename_i by_ hby
      split at h
      ·rename_i z hz
       split at h
       ·rename_i hk
        simp only [Bool.and_eq_true, beq_iff_eq] at hk
        unfold rMake at h
        obtain ⟨len, h1, h2⟩ := Option.bind_eq_some_iff.1 h
        obtain ⟨cap, h3, h4⟩ := Option.bind_eq_some_iff.1 h2
        simp only [he, hn, ha, hby, hz, Option.bind_some, h1, h3]
        split at h4
        ·rename_i hc
         rw [if_pos ⟨hc.1, hc.2.1, hc.2.2, hk.1, hk.2⟩]
         exact h4
        ·simp at h4
       ·simp at h
      ·simp at h
     ·simp at h
    ·simp at h
   ·simp at h
  ·simp at h
 case makeMap ty r =>
  split at h
  ·rename_i hu
   simp only [hu]
   split at h
   ·exact h
   ·simp at h
  ·simp at h
 case store ty p x =>
  split at h
  ·rename_i n hn; simp only [hn, Option.bind_some]; exact h
  ·simp at h
 case convert src dst x =>
  split at h
  ·rename_i hs
   rw [if_pos hs]
   split at h
   ·rename_i e hd
    split at h
    ·rename_i he
     unfold rBytes at h
     split at h
     ·rename_i s hx; rw [hx, hd]; simp only [he]; exact h
     ·simp at h
    ·simp at h
   ·simp at h
  ·simp at h
 case mapUpdate ty m k x =>
  split at h
  ·rename_i kt et hu
   exact rUpdate_ok hu h
  ·simp at h
 case insert ty m k x =>
  split at h
  ·rename_i kt et hu
   exact rUpdate_ok hu h
  ·simp at h
 case slice ty x lo hi mx =>
  split at h
  ·rename_i len e hu
   split at h
   ·rename_i n hn
    split at h
    ·rename_i ag hag
     simp only [hu, hn, hag, Option.bind_some]
     exact h
    ·simp at h
   ·simp at h
  ·simp at h
 case call c =>
  split at h
  ·rename_i hc
   split at h
   ·rename_i ty x q1 q2
    split at h
    ·rename_i e he
     split at h
     ·rename_i n hn
      split at h
      ·rename_i z hz
       simp only [hc, q1, q2, he, hn, hz, Option.bind_some]
       exact h
      ·simp at h
     ·simp at h
    ·simp at h
   ·simp at h
  ·rename_i hc
   split at h
   ·rename_i ty d x q1 q2 q3
    split at h
    ·rename_i e he
     split at h
     ·rename_i n hn
      simp only [hc, q1, q2, q3, he, hn, Option.bind_some]
      exact h
     ·simp at h
    ·simp at h
   ·simp at h
  ·rename_i hc
   split at h
   ·rename_i ty ty2 s x q1 q2 q3 q4
    split at h
    ·rename_i e he
     split at h
     ·rename_i n hn
      split at h
      ·rename_i ag ha
       split at h
       ·rename_i by_ hby
        split at h
        ·rename_i z hz
         split at h
         ·rename_i hk
          simp only [Bool.and_eq_true, beq_iff_eq] at hk
          have hng : ¬ (z.cells.length ≠ n ∨ scalL z.cells = false) := by
           rw [hk.2]; simp [hk.1]
          simp only [hc, q1, q2, q3, q4, he, hn, ha, hby, hz, Option.bind_some]
          rw [if_neg hng]
          split at h
          ·rename_i hu2; simp only [hu2]; exact h
          ·rename_i hu2
           simp only [hu2]
           unfold rAppendS at h
           split at h
           ·rename_i b hx; rw [hx]; exact h
           ·simp at h
          ·simp at h
         ·simp at h
        ·simp at h
       ·simp at h
      ·simp at h
     ·simp at h
    ·simp at h
   ·simp at h
  ·simp at h

end Go.Ev
end

section
/- The evaluator once more, with what comes next as a function: its steps read well when they are unfolded. -/
namespace Go.Ev
set_option linter.unusedVariables false
variable {α : Type} {β : Type}

def condV (v : V) (a b : Option α) : Option α :=
 match v with
 | .bool true => a
 | .bool false => b
 | _ => none
def outK (o : Out) (f g : V → Option α) : Option α :=
 match o with
 | .ret v => f v
 | .pan v => g v
def guardV (v : V) (want : Bool) (a b : Option α) : Option α :=
 match v with
 | .bool c => if c == want then a else b
 | .tup _ => b
 | _ => none
def guardK (ops : List Oper) (t : List V) (o : Oper) (a b : Option α) : Option α :=
 match o.guard with
 | none => a
 | some (j, want) => match (ops[j]?).bind (·.dst) with
  | none => b
  | some d => guardV (t.getD d .junk) want a b
def chk (b : Bool) (a : Option α) : Option α :=
 match b with
 | true => a
 | false => none
def tailB (x : Option V) (f : V → Bool) : Bool :=
 match x with
 | some v => f v
 | none => false

theorem guardK_some {ops : List Oper} {t : List V} {o : Oper} {a b : Option α} {x : α} (h : guardK ops t o a b = some x) : ∃ w, wantedV ops t o = some w ∧ (if w then a else b) = some x := by
 unfold guardK at h
 unfold wantedV
 split at h
 ·rename_i hg; simp [hg, h]
 ·rename_i j want hg
  simp only [hg]
  split at h
  ·rename_i hd; simp [hd, h]
  ·rename_i d hd
   simp only [hd]
   generalize t.getD d .junk = y at h ⊢
   cases y with
   | bool c => exact ⟨c == want, rfl, h⟩
   | tup vs => exact ⟨false, rfl, h⟩
   | _ => simp [guardV] at h
theorem chk_some {b : Bool} {a : Option α} {x : α} (h : chk b a = some x) : b = true ∧ a = some x := by cases b <;> simp_all [chk]
theorem tailB_some {x : Option V} {f : V → Bool} (h : tailB x f = true) : ∃ v, x = some v ∧ f v = true := by cases x <;> simp_all [tailB]

abbrev Ds := List (FuncId × List V)
/-- Temporaries: the last one that was set first. -/
abbrev Ts := List (Nat × V)
abbrev KC (α : Type) := Ex → Ts → Heap → Ds → Option α
def getA (i : Nat) : Ts → V
 | [] => .junk
 | (j, v) :: r => match Nat.beq i j with
  | true => v
  | false => getA i r
def genL (a : Ts) : Nat → Nat → List V
 | _, 0 => []
 | i, n + 1 => getA i a :: genL a (i + 1) n
/-- All of them, in a row. -/
def tl (n : Nat) (a : Ts) : List V := genL a 0 n
def putA (a : Ts) (dst : Option Tmp) (v : V) : Ts :=
 match dst with
 | some d => (d, v) :: a
 | none => a
def pickA (a : Ts) : List Nat → Ts
 | [] => []
 | i :: l => (i, getA i a) :: pickA a l
def trimA (ks : Ks) (c : Code) (a : Ts) : Ts :=
 match headId c with
 | none => a
 | some i => match findK i ks with
  | none => a
  | some l => pickA a l
def forgetA : List Oper → Ts → Ts
 | [], a => a
 | o :: r, a => forgetA r (putA a o.dst .junk)

theorem genL_get (a : Ts) : ∀ (n i k : Nat), (genL a i n)[k]? = if k < n then some (getA (i + k) a) else none
 | 0, i, k => by simp [genL]
 | n + 1, i, 0 => by simp [genL]
 | n + 1, i, k + 1 => by
  simp only [genL, List.getElem?_cons_succ, genL_get a n (i + 1) k, Nat.add_lt_add_iff_right]
  rw [show i + 1 + k = i + (k + 1) by omega]
theorem tl_get (n : Nat) (a : Ts) (k : Nat) : (tl n a)[k]? = if k < n then some (getA k a) else none := by rw [tl, genL_get]; simp
theorem beq_iff (i j : Nat) : Nat.beq i j = decide (i = j) := by
 by_cases h : i = j
 ·subst h; simp
 ·simp only [h, decide_false]
  cases hb : Nat.beq i j with
  | false => rfl
  | true => exact absurd (Nat.eq_of_beq_eq_true hb) h
theorem getA_cons (i j : Nat) (v : V) (a : Ts) : getA i ((j, v) :: a) = if i = j then v else getA i a := by
 simp only [getA, beq_iff]
 by_cases h : i = j <;> simp [h]
theorem tl_put (n : Nat) (a : Ts) (dst : Option Tmp) (v : V) : putV (tl n a) dst v = tl n (putA a dst v) := by
 cases dst with
 | none => rfl
 | some d =>
  refine List.ext_getElem? fun k => ?_
  simp only [putV, putA, List.getElem?_set, tl_get, getA_cons]
  by_cases h : d = k
  ·subst h
   have hl : (tl n a).length = n := by
    have : ∀ (n i : Nat), (genL a i n).length = n := fun n => by induction n with | zero => intro i; rfl | succ n ih => intro i; simp [genL, ih]
    exact this n 0
   simp only [if_true, hl]
  ·rw [if_neg h, if_neg (Ne.symm h)]
theorem getA_pick (a : Ts) (i : Nat) : ∀ l : List Nat, getA i (pickA a l) = if l.contains i then getA i a else .junk
 | [] => by simp [pickA, getA]
 | j :: l => by
  rw [pickA, getA_cons, getA_pick a i l]
  by_cases h : i = j
  ·subst h; simp
  ·simp [h]
theorem tl_trim (n : Nat) (ks : Ks) (c : Code) (a : Ts) : trimH ks c (tl n a) = tl n (trimA ks c a) := by
 unfold trimH trimA
 cases headId c with
 | none => rfl
 | some i =>
  cases h0 : findK i ks with
  | none => simp only [h0]
  | some l =>
   simp only [h0]
   refine List.ext_getElem? fun k => ?_
   rw [trim_get, tl_get, tl_get, getA_pick]
   by_cases h : k < n
   ·simp [h]
   ·simp [h]
theorem tl_forget (n : Nat) : ∀ (l : List Oper) (a : Ts), forget l (tl n a) = tl n (forgetA l a)
 | [], a => rfl
 | o :: r, a => by rw [forget, forgetA, tl_put, tl_forget n r]

section
variable (P : Program) (base : Nat) (own : Bool) (call : CallO) (ops : List Oper) (n : Nat) (k : KC α)

def kOps : List Oper → Ts → Heap → Ds → Option α
 | [], t, H, d => k .normal t H d
 | o :: rest, t, H, d => match kindOf P own ops o.dst o.op with
  | .defer => if o.guard.isNone then (evDefer (tl n t) o.op).bind fun r => kOps rest (putA t o.dst (.tup [])) H (r :: d) else none
  | .pure => (guardK ops (tl n t) o (evPureR P (tl n t) o.op) (some (.tup []))).bind fun v => kOps rest (putA t o.dst v) H d
  | .lit => (guardK ops (tl n t) o (evLitR P (tl n t) o.op) (some (.tup []))).bind fun v => kOps rest (putA t o.dst v) H d
  | .load => (guardK ops (tl n t) o (evLoadR P (tl n t) H o.op) (some (.tup []))).bind fun v => kOps rest (putA t o.dst v) H d
  | .eff | .fresh => (guardK ops (tl n t) o (evEffR P base (tl n t) H o.op) (some (.tup [], H))).bind fun r => kOps rest (putA t o.dst r.1) r.2 d
  | .call => (guardK ops (tl n t) o ((evCallee (tl n t) o.op).bind fun r => call r.1 r.2 H) (some (.ret (.tup []), H))).bind fun r => outK r.1 (fun v => kOps rest (putA t o.dst v) r.2 d) (fun v => k (.pan v) t r.2 d)
  | .panic => (guardK ops (tl n t) o ((evPanic (tl n t) o.op).map .pan) (some (.ret (.tup [])))).bind fun r => outK r (fun v => kOps rest (putA t o.dst v) H d) (fun v => k (.pan v) t H d)
  | .none => none

/-- Behind a panic. -/
def kTail (ms : List Nat) (p : Nat) (es : List (Nat × Heap)) : Nat → List Oper → Ts → Heap → Bool
 | _, [], _, _ => true
 | i, o :: rest, t, H =>
  if ahead ms i p then kTail ms p es (i + 1) rest t H else
  match kindOf P own ops o.dst o.op with
  | .pure => tailB (guardK ops (tl n t) o (evPureR P (tl n t) o.op) (some (.tup []))) fun v => kTail ms p es (i + 1) rest (putA t o.dst v) H
  | .lit => tailB (guardK ops (tl n t) o (evLitR P (tl n t) o.op) (some (.tup []))) fun v => kTail ms p es (i + 1) rest (putA t o.dst v) H
  | .load => tailB (guardK ops (tl n t) o ((evLoadR P (tl n t) H o.op).bind fun v => chk (effsOk P ms i o.op (tl n t) v es) (some v)) (some (.tup []))) fun v => kTail ms p es (i + 1) rest (putA t o.dst v) H
  | _ => false

def later (ms : List Nat) (i : Nat) : Bool := withAll (fun j oj => decide (j ≤ i) || !isEff (kindOf P own ops oj.dst oj.op) || ahead ms j i) 0 ops

def kDraw (t0 : Ts) (ms : List Nat) : Nat → List Oper → List Ld → List (Nat × Heap) → Ts → Heap → Ds → Option α
 | _, [], _, _, t, H, d => k .normal t H d
 | i, o :: rest, ls, es, t, H, d => match kindOf P own ops o.dst o.op with
  | .pure => (guardK ops (tl n t) o (evPureR P (tl n t) o.op) (some (.tup []))).bind fun v => kDraw t0 ms (i + 1) rest ls es (putA t o.dst v) H d
  | .lit => (guardK ops (tl n t) o (evLitR P (tl n t) o.op) (some (.tup []))).bind fun v => kDraw t0 ms (i + 1) rest ls es (putA t o.dst v) H d
  | .load => if later P own ops ms i = true then (guardK ops (tl n t) o ((evLoadR P (tl n t) H o.op).bind fun v => chk (effsOk P ms i o.op (tl n t) v es) (some v)) (some (.tup []))).bind fun v => kDraw t0 ms (i + 1) rest ls es (putA t o.dst v) H d
    else if o.guard.isNone then (evLoadR P (tl n t) H o.op).bind fun v => chk (effsOk P ms i o.op (tl n t) v es) (kDraw t0 ms (i + 1) rest ({ i, op := o.op, t := tl n t, v } :: ls) es (putA t o.dst v) H d)
    else none
  | .eff | .fresh => (guardK ops (tl n t) o (evEffR P base (tl n t) H o.op) (some (.tup [], H))).bind fun r => chk (ldsOk P ms i r.2 ls) (kDraw t0 ms (i + 1) rest ls ((i, H) :: es) (putA t o.dst r.1) r.2 d)
  | .call => (guardK ops (tl n t) o ((evCallee (tl n t) o.op).bind fun r => call r.1 r.2 H) (some (.ret (.tup []), H))).bind fun r => outK r.1
    (fun v => chk (ldsOk P ms i r.2 ls) (kDraw t0 ms (i + 1) rest ls ((i, H) :: es) (putA t o.dst v) r.2 d))
    (fun v => chk (kTail P own ops n ms i es (i + 1) rest t H) (k (.pan v) (forgetA ops t0) r.2 d))
  | .panic => (guardK ops (tl n t) o ((evPanic (tl n t) o.op).map .pan) (some (.ret (.tup [])))).bind fun r => outK r
    (fun v => kDraw t0 ms (i + 1) rest ls es (putA t o.dst v) H d)
    (fun v => chk (kTail P own ops n ms i es (i + 1) rest t H) (k (.pan v) (forgetA ops t0) H d))
  | .defer | .none => none
end

/-- Again and again. -/
def iter (f : Ts → Heap → Ds → (Ts → Heap → Ds → Option α) → Option α) : Nat → Ts → Heap → Ds → Option α
 | 0, _, _, _ => none
 | n + 1, t, H, d => f t H d (iter f n)

def seqK (k1 k : KC α) : KC α := fun e t H d =>
 match e with
 | .normal => k1 .normal t H d
 | e => k e t H d
def blockK (id : Nat) (k : KC α) : KC α := fun e t H d =>
 match e with
 | .exit j => if j = id then k .normal t H d else k (.exit j) t H d
 | e => k e t H d
def loopK (ks : Ks) (b : Code) (again : Ts → Heap → Ds → Option α) (k : KC α) : KC α := fun e t H d =>
 match e with
 | .normal => again (trimA ks b t) H d
 | e => k e t H d

/-! It says what the evaluator says. -/
section
variable {P : Program} {base : Nat} {own : Bool} {call : CallO} {ops : List Oper} {n : Nat} {k : KC α}

theorem kOps_sound : ∀ (l : List Oper) {t : Ts} {H : Heap} {d : Ds} {x : α}, kOps P base own call ops n k l t H d = some x → ∃ e t' H' d', evOps P base own call ops l { t := tl n t, H, d } = some (e, { t := tl n t', H := H', d := d' }) ∧ k e t' H' d' = some x
 | [], t, H, d, x, h => ⟨.normal, _, _, _, rfl, h⟩
 | o :: rest, t, H, d, x, h => by
  simp only [kOps] at h
  simp only [evOps]
  split at h <;> rename_i hk
  ·split at h
   ·rename_i hg
    obtain ⟨r, h1, h2⟩ := Option.bind_eq_some_iff.1 h
    rw [if_pos hk, if_pos hg, h1]
    simp only [tl_put]; exact kOps_sound rest h2
   ·simp at h
  all_goals (try (simp at h; done))
  all_goals
   rw [if_neg (by rw [hk]; simp)]
   obtain ⟨r, h1, h2⟩ := Option.bind_eq_some_iff.1 h
   obtain ⟨b, hb, hv⟩ := guardK_some h1
   unfold evOne
   rw [hb]
   simp only [Option.bind_some]
  ·cases b with
   | true => simp only [if_true] at hv ⊢; rw [hk]; simp only [pureR_pure hv, Option.map_some, Option.bind_some]; simp only [tl_put]; exact kOps_sound rest h2
   | false => simp at hv ⊢; subst hv; simp only [tl_put]; exact kOps_sound rest h2
  ·cases b with
   | true => simp only [if_true] at hv ⊢; rw [hk]; simp only [litR_lit hv, Option.map_some, Option.bind_some]; simp only [tl_put]; exact kOps_sound rest h2
   | false => simp at hv ⊢; subst hv; simp only [tl_put]; exact kOps_sound rest h2
  ·cases b with
   | true => simp only [if_true] at hv ⊢; rw [hk]; simp only [loadR_load hv, Option.map_some, Option.bind_some]; simp only [tl_put]; exact kOps_sound rest h2
   | false => simp at hv ⊢; subst hv; simp only [tl_put]; exact kOps_sound rest h2
  ·cases b with
   | true => simp only [if_true] at hv ⊢; rw [hk]; simp only [effR_eff hv, Option.map_some, Option.bind_some]; simp only [tl_put]; exact kOps_sound rest h2
   | false => simp at hv ⊢; subst hv; simp only [tl_put]; exact kOps_sound rest h2
  ·cases b with
   | true => simp only [if_true] at hv ⊢; rw [hk]; simp only [effR_eff hv, Option.map_some, Option.bind_some]; simp only [tl_put]; exact kOps_sound rest h2
   | false => simp at hv ⊢; subst hv; simp only [tl_put]; exact kOps_sound rest h2
  ·obtain ⟨r, H1⟩ := r
   cases b with
   | true =>
    simp only [if_true] at hv ⊢
    rw [hk]
    simp only [hv, Option.bind_some]
    cases r with
    | ret v => simp only [tl_put]; exact kOps_sound rest h2
    | pan v => exact ⟨_, _, _, _, rfl, h2⟩
   | false => simp at hv ⊢; obtain ⟨rfl, rfl⟩ := hv; simp only [tl_put]; exact kOps_sound rest h2
  ·cases b with
   | true =>
    simp only [if_true] at hv ⊢
    rw [hk]
    obtain ⟨v, hv1, rfl⟩ := Option.map_eq_some_iff.1 hv
    simp only [hv1, Option.map_some, Option.bind_some]
    exact ⟨_, _, _, _, rfl, h2⟩
   | false => simp at hv ⊢; subst hv; simp only [tl_put]; exact kOps_sound rest h2

theorem kTail_sound {ms : List Nat} {p : Nat} {es : List (Nat × Heap)} : ∀ (l : List Oper) {i : Nat} {t : Ts} {H : Heap}, kTail P own ops n ms p es i l t H = true → evTail P own ops ms p es i l (tl n t) H = true
 | [], i, t, H, h => rfl
 | o :: rest, i, t, H, h => by
  simp only [kTail] at h
  simp only [evTail]
  split at h
  ·rename_i ha; rw [if_pos ha]; exact kTail_sound rest h
  ·rename_i ha
   rw [if_neg ha]
   split at h <;> rename_i hk
   ·obtain ⟨v, h1, h2⟩ := tailB_some h
    obtain ⟨b, hb, hv⟩ := guardK_some h1
    rw [hb]
    cases b with
    | true => simp only [if_true] at hv ⊢; rw [hk]; simp only [pureR_pure hv]; simp only [tl_put]; exact kTail_sound rest h2
    | false => simp at hv ⊢; subst hv; simp only [tl_put]; exact kTail_sound rest h2
   ·obtain ⟨v, h1, h2⟩ := tailB_some h
    obtain ⟨b, hb, hv⟩ := guardK_some h1
    rw [hb]
    cases b with
    | true => simp only [if_true] at hv ⊢; rw [hk]; simp only [litR_lit hv]; simp only [tl_put]; exact kTail_sound rest h2
    | false => simp at hv ⊢; subst hv; simp only [tl_put]; exact kTail_sound rest h2
   ·obtain ⟨v, h1, h2⟩ := tailB_some h
    obtain ⟨b, hb, hv⟩ := guardK_some h1
    rw [hb]
    cases b with
    | true =>
     simp only [if_true] at hv ⊢
     rw [hk]
     obtain ⟨v', h3, h4⟩ := Option.bind_eq_some_iff.1 hv
     obtain ⟨h5, h6⟩ := chk_some h4
     injection h6 with h6; subst h6
     simp only [loadR_load h3, h5, Bool.true_and]
     simp only [tl_put]; exact kTail_sound rest h2
    | false => simp at hv ⊢; subst hv; simp only [tl_put]; exact kTail_sound rest h2
   ·simp at h

/-- What is said of fewer. -/
theorem effsOk_mono {ms : List Nat} {i : Nat} {op : Op} {t : List V} {v : V} : ∀ {es' es : List (Nat × Heap)}, (∀ e ∈ es, e ∈ es') → effsOk P ms i op t v es' = true → effsOk P ms i op t v es = true := by
 intro es' es hs h
 have key : ∀ (l : List (Nat × Heap)), effsOk P ms i op t v l = true ↔ ∀ e ∈ l, (ahead ms i e.1 || same (evLoad P t e.2 op) v) = true := by
  intro l
  induction l with
  | nil => simp [effsOk]
  | cons x l ih =>
   obtain ⟨e, H⟩ := x
   simp only [effsOk, Bool.and_eq_true, ih, List.forall_mem_cons]
 rw [key] at h ⊢
 exact fun e he => h e (hs e he)
theorem ldsOk_iff {ms : List Nat} {j : Nat} {H : Heap} : ∀ (l : List Ld), ldsOk P ms j H l = true ↔ ∀ x ∈ l, (ahead ms j x.i || same (evLoad P x.t H x.op) x.v) = true := by
 intro l
 induction l with
 | nil => simp [ldsOk]
 | cons x l ih => simp only [ldsOk, Bool.and_eq_true, ih, List.forall_mem_cons]
end
end Go.Ev
end

section
/- Drawn regions, code and loops, with what comes next as a function. -/
namespace Go.Ev
set_option linter.unusedVariables false
variable {T : Tabs}
variable {α : Type}
variable {P : Program} {base : Nat} {own : Bool} {call : CallO} {ops : List Oper} {n : Nat} {k : KC α}

theorem evTail_mono {ms : List Nat} {p : Nat} {es es' : List (Nat × Heap)} (hs : ∀ e ∈ es', e ∈ es) : ∀ (l : List Oper) {i : Nat} {t : List V} {H : Heap}, evTail P own ops ms p es i l t H = true → evTail P own ops ms p es' i l t H = true
 | [], i, t, H, h => rfl
 | o :: rest, i, t, H, h => by
  simp only [evTail] at h ⊢
  split at h
  ·rename_i ha; rw [if_pos ha]; exact evTail_mono hs rest h
  ·rename_i ha
   rw [if_neg ha]
   split at h
   ·exact evTail_mono hs rest h
   ·split at h
    ·split at h
     ·exact evTail_mono hs rest h
     ·simp at h
    ·split at h
     ·exact evTail_mono hs rest h
     ·simp at h
    ·split at h
     ·simp only [Bool.and_eq_true] at h ⊢
      exact ⟨effsOk_mono hs h.1, evTail_mono hs rest h.2⟩
     ·simp at h
    ·simp at h
   ·simp at h

theorem kDraw_sound {t0 : Ts} {ms : List Nat} : ∀ (rest : List Oper) (i : Nat) {ls ls' : List Ld} {es es' : List (Nat × Heap)} {t : Ts} {H : Heap} {d : Ds} {x : α}, ops.drop i = rest →
  (∀ e ∈ es', e ∈ es) → (∀ l ∈ ls', l.i < i ∧ (l ∈ ls ∨ later P own ops ms l.i = true)) →
  kDraw P base own call ops n k t0 ms i rest ls es t H d = some x → ∃ e t' H' d', evDraw P base own (tl n t0) call ops ms i rest ls' es' { t := tl n t, H, d } = some (e, { t := tl n t', H := H', d := d' }) ∧ k e t' H' d' = some x
 | [], i, ls, ls', es, es', t, H, d, x, hd, he, hl, h => ⟨.normal, _, _, _, rfl, h⟩
 | o :: rest, i, ls, ls', es, es', t, H, d, x, hd, he, hl, h => by
  have ho : ops[i]? = some o := by
   have := congrArg (fun l : List Oper => l[0]?) hd
   simpa using this
  have hd' : ops.drop (i + 1) = rest := by rw [← List.tail_drop, hd]; rfl
  have hl' : ∀ l ∈ ls', l.i < i + 1 ∧ (l ∈ ls ∨ later P own ops ms l.i = true) := fun l hh => ⟨by have := (hl l hh).1; omega, (hl l hh).2⟩
  have hlds : ∀ {H1 : Heap}, isEff (kindOf P own ops o.dst o.op) = true → ldsOk P ms i H1 ls = true → ldsOk P ms i H1 ls' = true := fun {H1} hi hh => by
   rw [ldsOk_iff] at hh ⊢
   intro l hlm
   obtain ⟨h1, h2 | h2⟩ := hl l hlm
   ·exact hh l h2
   ·have := withAll_spec h2 i o ho
    simp only [Nat.zero_add, hi, Bool.not_true, Bool.or_false, Bool.or_eq_true, decide_eq_true_eq] at this
    rcases this with h3 | h3
    ·omega
    ·simp [h3]
  simp only [kDraw] at h
  simp only [evDraw]
  split at h <;> rename_i hk
  ·-- pure
   obtain ⟨v, h1, h2⟩ := Option.bind_eq_some_iff.1 h
   obtain ⟨b, hb, hv⟩ := guardK_some h1
   have e1 : evOne P base own call ops o (tl n t) H = some (.ret v, H) := by
    unfold evOne; rw [hb]
    cases b with
    | true => simp only [if_true] at hv; simp [hk, pureR_pure hv]
    | false => simp at hv; simp [hv]
   have hk2 : (if b = true then kindOf P own ops o.dst o.op else .pure) = .pure := by cases b <;> simp [hk]
   rw [hb, e1]
   simp only [Option.bind_some, hk2]
   simp only [tl_put]; exact kDraw_sound rest (i + 1) hd' he hl' h2
  ·-- lit
   obtain ⟨v, h1, h2⟩ := Option.bind_eq_some_iff.1 h
   obtain ⟨b, hb, hv⟩ := guardK_some h1
   have e1 : evOne P base own call ops o (tl n t) H = some (.ret v, H) := by
    unfold evOne; rw [hb]
    cases b with
    | true => simp only [if_true] at hv; simp [hk, litR_lit hv]
    | false => simp at hv; simp [hv]
   rw [hb, e1]
   simp only [Option.bind_some]
   cases b with
   | true => simp only [if_true, hk]; simp only [tl_put]; exact kDraw_sound rest (i + 1) hd' he hl' h2
   | false => simp only [Bool.false_eq_true, if_false]; simp only [tl_put]; exact kDraw_sound rest (i + 1) hd' he hl' h2
  ·-- load
   split at h
   ·rename_i hla
    obtain ⟨v, h1, h2⟩ := Option.bind_eq_some_iff.1 h
    obtain ⟨b, hb, hv⟩ := guardK_some h1
    cases b with
    | true =>
     simp only [if_true] at hv
     obtain ⟨v', h3, h4⟩ := Option.bind_eq_some_iff.1 hv
     obtain ⟨h5, h6⟩ := chk_some h4
     injection h6 with h6; subst h6
     have e1 : evOne P base own call ops o (tl n t) H = some (.ret v', H) := by
      unfold evOne; rw [hb]; simp [hk, loadR_load h3]
     rw [hb, e1]
     simp only [Option.bind_some, if_true, hk]
     rw [if_pos (effsOk_mono he h5)]
     simp only [tl_put]
     refine kDraw_sound rest (i + 1) hd' he (fun l hh => ?_) h2
     rcases List.mem_cons.1 hh with rfl | hh
     ·exact ⟨by simp, .inr hla⟩
     ·exact hl' l hh
    | false =>
     simp at hv; subst hv
     have e1 : evOne P base own call ops o (tl n t) H = some (.ret (.tup []), H) := by
      unfold evOne; rw [hb]; simp
     rw [hb, e1]
     simp only [Option.bind_some, Bool.false_eq_true, if_false]
     simp only [tl_put]; exact kDraw_sound rest (i + 1) hd' he hl' h2
   ·split at h
    ·rename_i hg
     obtain ⟨v, h1, h2⟩ := Option.bind_eq_some_iff.1 h
     obtain ⟨h3, h4⟩ := chk_some h2
     have hb : wantedV ops (tl n t) o = some true := by
      have : o.guard = none := by simpa using hg
      simp [wantedV, this]
     have e1 : evOne P base own call ops o (tl n t) H = some (.ret v, H) := by
      unfold evOne; rw [hb]; simp [hk, loadR_load h1]
     rw [hb, e1]
     simp only [Option.bind_some, if_true, hk]
     rw [if_pos (effsOk_mono he h3)]
     simp only [tl_put]
     refine kDraw_sound rest (i + 1) hd' he (fun l hh => ?_) h4
     rcases List.mem_cons.1 hh with rfl | hh
     ·exact ⟨by simp, .inl List.mem_cons_self⟩
     ·exact ⟨(hl' l hh).1, (hl' l hh).2.imp (List.mem_cons_of_mem _) id⟩
    ·simp at h
  all_goals (try (simp at h; done))
  ·-- eff
   obtain ⟨r, h1, h2⟩ := Option.bind_eq_some_iff.1 h
   obtain ⟨b, hb, hv⟩ := guardK_some h1
   obtain ⟨h3, h4⟩ := chk_some h2
   have h5 := hlds (by rw [hk]; rfl) h3
   obtain ⟨v, H1⟩ := r
   have e1 : evOne P base own call ops o (tl n t) H = some (.ret v, H1) := by
    unfold evOne; rw [hb]
    cases b with
    | true => simp only [if_true] at hv; simp [hk, effR_eff hv]
    | false => simp at hv; simp [hv]
   rw [hb, e1]
   simp only [Option.bind_some]
   cases b with
   | true =>
    simp only [if_true, hk]
    rw [if_pos h5]
    simp only [tl_put]; exact kDraw_sound rest (i + 1) hd' (fun e hh => (List.mem_cons.1 hh).elim (fun hh => hh ▸ List.mem_cons_self) fun hh => List.mem_cons_of_mem _ (he e hh)) hl' h4
   | false =>
    simp only [Bool.false_eq_true, if_false]
    simp only [tl_put]; exact kDraw_sound rest (i + 1) hd' (fun e hh => List.mem_cons_of_mem _ (he e hh)) hl' h4
  ·-- fresh
   obtain ⟨r, h1, h2⟩ := Option.bind_eq_some_iff.1 h
   obtain ⟨b, hb, hv⟩ := guardK_some h1
   obtain ⟨h3, h4⟩ := chk_some h2
   have h5 := hlds (by rw [hk]; rfl) h3
   obtain ⟨v, H1⟩ := r
   have e1 : evOne P base own call ops o (tl n t) H = some (.ret v, H1) := by
    unfold evOne; rw [hb]
    cases b with
    | true => simp only [if_true] at hv; simp [hk, effR_eff hv]
    | false => simp at hv; simp [hv]
   rw [hb, e1]
   simp only [Option.bind_some]
   cases b with
   | true =>
    simp only [if_true, hk]
    rw [if_pos h5]
    simp only [tl_put]; exact kDraw_sound rest (i + 1) hd' (fun e hh => (List.mem_cons.1 hh).elim (fun hh => hh ▸ List.mem_cons_self) fun hh => List.mem_cons_of_mem _ (he e hh)) hl' h4
   | false =>
    simp only [Bool.false_eq_true, if_false]
    simp only [tl_put]; exact kDraw_sound rest (i + 1) hd' (fun e hh => List.mem_cons_of_mem _ (he e hh)) hl' h4
  ·-- call
   obtain ⟨r, h1, h2⟩ := Option.bind_eq_some_iff.1 h
   obtain ⟨b, hb, hv⟩ := guardK_some h1
   obtain ⟨r, H1⟩ := r
   have e1 : evOne P base own call ops o (tl n t) H = some (r, H1) := by
    unfold evOne; rw [hb]
    cases b with
    | true => simp only [if_true] at hv; simp [hk, hv]
    | false => simp at hv; obtain ⟨rfl, rfl⟩ := hv; simp
   rw [hb, e1]
   simp only [Option.bind_some]
   cases r with
   | ret v =>
    simp only [outK] at h2
    obtain ⟨h3, h4⟩ := chk_some h2
    have h5 := hlds (by rw [hk]; rfl) h3
    cases b with
    | true =>
     simp only [if_true, hk]
     rw [if_pos h5]
     simp only [tl_put]; exact kDraw_sound rest (i + 1) hd' (fun e hh => (List.mem_cons.1 hh).elim (fun hh => hh ▸ List.mem_cons_self) fun hh => List.mem_cons_of_mem _ (he e hh)) hl' h4
    | false =>
     simp only [Bool.false_eq_true, if_false]
     simp only [tl_put]; exact kDraw_sound rest (i + 1) hd' (fun e hh => List.mem_cons_of_mem _ (he e hh)) hl' h4
   | pan v =>
    simp only [outK] at h2
    obtain ⟨h3, h4⟩ := chk_some h2
    simp only
    rw [if_pos (evTail_mono he _ (kTail_sound _ h3))]
    exact ⟨_, forgetA ops t0, _, _, by rw [tl_forget], h4⟩
  ·-- panic
   obtain ⟨r, h1, h2⟩ := Option.bind_eq_some_iff.1 h
   obtain ⟨b, hb, hv⟩ := guardK_some h1
   cases b with
   | true =>
    simp only [if_true] at hv
    obtain ⟨v, hv1, rfl⟩ := Option.map_eq_some_iff.1 hv
    have e1 : evOne P base own call ops o (tl n t) H = some (.pan v, H) := by
     unfold evOne; rw [hb]; simp [hk, hv1]
    rw [hb, e1]
    simp only [outK] at h2
    obtain ⟨h3, h4⟩ := chk_some h2
    simp only [Option.bind_some]
    rw [if_pos (evTail_mono he _ (kTail_sound _ h3))]
    exact ⟨_, forgetA ops t0, _, _, by rw [tl_forget], h4⟩
   | false =>
    simp at hv; subst hv
    have e1 : evOne P base own call ops o (tl n t) H = some (.ret (.tup []), H) := by
     unfold evOne; rw [hb]; simp
    rw [hb, e1]
    simp only [outK] at h2
    simp only [Option.bind_some, Bool.false_eq_true, if_false]
    simp only [tl_put]; exact kDraw_sound rest (i + 1) hd' he hl' h2

/-! Loops by fuel. -/
noncomputable def loopF (P : Program) (call : CallO) : Nat → LoopO
 | 0 => fun _ _ _ _ _ => none
 | n + 1 => loopBody P call (loopF P call n)

def LoopLe (a b : LoopO) : Prop := ∀ base own ks c st r, a base own ks c st = some r → b base own ks c st = some r

theorem evC_mono {ks : Ks} {l1 l2 : LoopO} (hl : LoopLe l1 l2) : ∀ (c : Code) {st : St} {r : Ex × St}, evC P base own ks call l1 c st = some r → evC P base own ks call l2 c st = some r
 | .skip, st, r, h | .label _, st, r, h | .exit _, st, r, h | .ret, st, r, h => h
 | .region _ ops draw, st, r, h => h
 | .seq a b, st, r, h => by
  simp only [evC] at h ⊢
  obtain ⟨⟨e1, st1⟩, h1, h2⟩ := Option.bind_eq_some_iff.1 h
  rw [evC_mono hl a h1]
  simp only [Option.bind_some]
  cases e1 with
  | normal => exact evC_mono hl b h2
  | _ => exact h2
 | .cond c a b, st, r, h => by
  simp only [evC] at h ⊢
  split at h
  ·exact evC_mono hl a h
  ·exact evC_mono hl b h
  ·simp at h
 | .block id b, st, r, h => by
  simp only [evC] at h ⊢
  obtain ⟨q, h1, h2⟩ := Option.bind_eq_some_iff.1 h
  rw [evC_mono hl b h1]
  exact h2
 | .loop b, st, r, h => hl _ _ _ _ _ _ h
 | .scope b, st, r, h => evC_mono (ks := ks) hl b h
 | .goto _, st, r, h => by simp [evC] at h
 | .rangeFunc .., st, r, h => by simp [evC] at h

theorem loopBody_mono {l1 l2 : LoopO} (hl : LoopLe l1 l2) : LoopLe (loopBody P call l1) (loopBody P call l2) := by
 intro base own ks c st r h
 unfold loopBody at h ⊢
 obtain ⟨q, h1, h2⟩ := Option.bind_eq_some_iff.1 h
 rw [evC_mono hl c h1]
 simp only [Option.bind_some]
 split at h2
 ·exact hl _ _ _ _ _ _ h2
 ·exact h2
theorem loopF_succ : ∀ n, LoopLe (loopF P call n) (loopF P call (n + 1))
 | 0 => fun _ _ _ _ _ _ h => by simp [loopF] at h
 | n + 1 => loopBody_mono (loopF_succ n)
theorem loopF_mono {n m : Nat} (h : n ≤ m) : LoopLe (loopF P call n) (loopF P call m) := by
 induction h with
 | refl => exact fun _ _ _ _ _ _ h => h
 | step _ ih => exact fun _ _ _ _ _ _ h => loopF_succ _ _ _ _ _ _ _ (ih _ _ _ _ _ _ h)
theorem loopF_ok (hcall : CallOK T P call) (hmix : P.follows .mixedOrders = true) : ∀ n, LoopOK T P (loopF P call n)
 | 0 => fun _ _ _ _ _ _ _ h => by simp [loopF] at h
 | n + 1 => loop_sound hcall (loopF_ok hcall hmix n) hmix

end Go.Ev
end

section
/- A function, by the continuation form: what is to be shown of it. -/
namespace Go.Ev
set_option linter.unusedVariables false
variable {T : Tabs}
variable {P : Program}

def oneOr (vs : List V) : V :=
 match vs with
 | [v] => v
 | _ => .tup vs

def kResL {α : Type} (P : Program) (t : List V) (H : Heap) : List ResultVar → (List V → Option α) → Option α
 | [], k => k []
 | .tmp i :: rs, k => kResL P t H rs fun vs => k (t.getD i .junk :: vs)
 | .cell a ty :: rs, k => (resOne P { t, H, d := [] } (.cell a ty)).bind fun v => kResL P t H rs fun vs => k (v :: vs)

def retO (keep : Bool) (base : Nat) (v : V) (H : Heap) : Option (Out × Heap) := some (.ret (retK keep base v H).1, (retK keep base v H).2)
def panO (keep : Bool) (base : Nat) (v : V) (H : Heap) : Option (Out × Heap) := some (.pan (retK keep base v H).1, (retK keep base v H).2)

def kLeave (P : Program) (dfr : DefO) (keep : Bool) (base n : Nat) (rs : List ResultVar) (t : Ts) : Ds → Option V → Heap → Option (Out × Heap)
 | [], none, H => kResL P (tl n t) H rs fun vs => retO keep base (oneOr vs) H
 | [], some v, H => panO keep base v H
 | d :: ds, m, H => (dfr d.1 d.2 m H).bind fun r => kLeave P dfr keep base n rs t ds (if r.1 then none else m) r.2

/-- The arguments. -/
def argA : Nat → List V → Ts
 | _, [] => []
 | i, v :: l => (i, v) :: argA (i + 1) l
theorem argA_get : ∀ (l : List V) (i k : Nat), getA k (argA i l) = if i ≤ k ∧ k < i + l.length then l.getD (k - i) .junk else .junk
 | [], i, k => by simp [argA, getA]
 | v :: l, i, k => by
  rw [argA, getA_cons, argA_get l (i + 1) k]
  by_cases h : k = i
  ·subst h; simp
  ·rw [if_neg h]
   by_cases h2 : i + 1 ≤ k ∧ k < i + 1 + l.length
   ·rw [if_pos h2, if_pos (by simp; omega), show k - i = (k - (i + 1)) + 1 by omega]; simp
   ·rw [if_neg h2, if_neg (by simp; omega)]
theorem tl_args {args : List V} {n : Nat} (h : args.length ≤ n) : tl n (argA 0 args) = args ++ List.replicate (n - args.length) .junk := by
 refine List.ext_getElem? fun k => ?_
 rw [tl_get, argA_get, List.getElem?_append, List.getElem?_replicate]
 simp only [Nat.zero_le, true_and, Nat.zero_add, Nat.sub_zero]
 by_cases h1 : k < args.length
 ·rw [if_pos (by omega), if_pos h1, if_pos h1]; simp [h1]
 ·rw [if_neg h1, if_neg h1]
  by_cases h2 : k < n
  ·rw [if_pos h2, if_pos (by omega)]
  ·rw [if_neg h2, if_neg (by omega)]

theorem kResL_some {α : Type} {t : List V} {H : Heap} : ∀ {rs : List ResultVar} {k : List V → Option α} {x : α}, kResL P t H rs k = some x → ∃ vs, resAll P { t, H, d := [] } rs = some vs ∧ k vs = some x
 | [], k, x, h => ⟨[], rfl, h⟩
 | .tmp i :: rs, k, x, h => by
  simp only [kResL] at h
  obtain ⟨vs, h1, h2⟩ := kResL_some (rs := rs) h
  exact ⟨_, by simp only [resAll, resOne, Option.bind_some]; rw [h1]; rfl, h2⟩
 | .cell a ty :: rs, k, x, h => by
  simp only [kResL] at h
  obtain ⟨v, h0, h⟩ := Option.bind_eq_some_iff.1 h
  obtain ⟨vs, h1, h2⟩ := kResL_some (rs := rs) h
  exact ⟨_, by simp only [resAll]; rw [h0, h1]; rfl, h2⟩

theorem kLeave_some {dfr : DefO} {keep : Bool} {base : Nat} {rs : List ResultVar} {n : Nat} {t : Ts} : ∀ {d : Ds} {m : Option V} {H : Heap} {x : Out × Heap}, kLeave P dfr keep base n rs t d m H = some x →
  ((evLeave dfr (fun H' => resV P { t := tl n t, H := H', d := [] } rs) d m H).bind fun o => match o.1 with
     | .ret v => let p := retK keep base v o.2; some (Out.ret p.1, p.2)
     | .pan v => let p := retK keep base v o.2; some (Out.pan p.1, p.2)) = some x
 | [], none, H, x, h => by
  simp only [kLeave] at h
  obtain ⟨vs, h1, h2⟩ := kResL_some h
  simp only [evLeave, resV]
  rw [h1]
  simp only [Option.map_some, Option.bind_some]
  unfold oneOr at h2
  exact h2
 | [], some v, H, x, h => h
 | d :: ds, m, H, x, h => by
  simp only [kLeave] at h
  obtain ⟨r, h1, h2⟩ := Option.bind_eq_some_iff.1 h
  simp only [evLeave]
  rw [h1]
  exact kLeave_some h2

/-! Oracles by a list of functions. -/
def noCall : CallO := fun _ _ _ => none
def CallO.add (call : CallO) (f : FuncId) (g : List V → Heap → Option (Out × Heap)) : CallO := fun f' args H => if f' = f then g args H else call f' args H
theorem noCall_ok : CallOK T P noCall := fun f args H r H' h => by simp [noCall] at h
theorem CallOK.add {call : CallO} (h : CallOK T P call) {f : FuncId} {g : List V → Heap → Option (Out × Heap)} (hg : Mod T P f g) : CallOK T P (call.add f g) := by
 intro f' args H r H' hc
 unfold CallO.add at hc
 split at hc
 ·rename_i e; subst e; exact hg args H r H' hc
 ·exact h f' args H r H' hc
end Go.Ev
end

