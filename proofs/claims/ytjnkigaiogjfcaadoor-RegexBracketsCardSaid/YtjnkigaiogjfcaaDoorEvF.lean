/- EvF: a part of the proof that each law of this seat answers true at every input. No condition. -/
import Derived.Test.YtjnkigaiogjfcaaDoorEvE
import Derived.Lib.ItoaNum
import Derived.Lib.Case
import Derived.Lib.Join
set_option linter.unusedVariables false
set_option linter.unusedSimpArgs false
section
/- The named operations once more, shut: the kernel sees no way into them, so that two texts of them are compared part by part. -/
namespace Go.Ev
set_option linter.unusedVariables false
universe u
noncomputable def shut {α : Sort u} (a : α) : α := Classical.choose (⟨a, rfl⟩ : ∃ x, x = a)
theorem shut_eq {α : Sort u} (a : α) : shut a = a := Classical.choose_spec (⟨a, rfl⟩ : ∃ x, x = a)

noncomputable def oPick : V → V → V → Option V := shut (rPick)
theorem oPick_eq : oPick = rPick := shut_eq _
noncomputable def oBuild : List V → List (Nat × Nat) → List (Nat × V) → Option V := shut (rBuild)
theorem oBuild_eq : oBuild = rBuild := shut_eq _
noncomputable def oBuildA : List V → Nat → List (Nat × V) → Option V := shut (rBuildA)
theorem oBuildA_eq : oBuildA = rBuildA := shut_eq _
noncomputable def oNil : V → Option V := shut (rNil)
theorem oNil_eq : oNil = rNil := shut_eq _
noncomputable def oBin : BinOp → Nat → V → V → Option V := shut (rBin)
theorem oBin_eq : oBin = rBin := shut_eq _
noncomputable def oBinI : BinOp → Bool → V → V → Option V := shut (rBinI)
theorem oBinI_eq : oBinI = rBinI := shut_eq _
noncomputable def oUn : UnOp → V → Option V := shut (vUn)
theorem oUn_eq : oUn = vUn := shut_eq _
noncomputable def oIntTo : IntKind → V → Option V := shut (rIntTo)
theorem oIntTo_eq : oIntTo = rIntTo := shut_eq _
noncomputable def oToStr : V → Option V := shut (rToStr)
theorem oToStr_eq : oToStr = rToStr := shut_eq _
noncomputable def oIface : TypeId → V → Option V := shut (rIface)
theorem oIface_eq : oIface = rIface := shut_eq _
noncomputable def oMkFn : FuncId → List V → Option V := shut (rMkFn)
theorem oMkFn_eq : oMkFn = rMkFn := shut_eq _
noncomputable def oSliceStr : V → Option V → Option V → Option V → Option V := shut (vSliceStr)
theorem oSliceStr_eq : oSliceStr = vSliceStr := shut_eq _
noncomputable def oSlice : Nat → V → Option V → Option V → Option V → Option V := shut (vSlice)
theorem oSlice_eq : oSlice = vSlice := shut_eq _
noncomputable def oFieldPtr : V → Nat → Option V := shut (fieldPtr)
theorem oFieldPtr_eq : oFieldPtr = fieldPtr := shut_eq _
noncomputable def oField : Nat → Bool → Nat → V → Option V := shut (rField)
theorem oField_eq : oField = rField := shut_eq _
noncomputable def oIndexPtr : Nat → V → V → Option V := shut (rIndexPtr)
theorem oIndexPtr_eq : oIndexPtr = rIndexPtr := shut_eq _
noncomputable def oIndexPtrA : Nat → Nat → V → V → Option V := shut (rIndexPtrA)
theorem oIndexPtrA_eq : oIndexPtrA = rIndexPtrA := shut_eq _
noncomputable def oIndexStr : V → V → Option V := shut (rIndexStr)
theorem oIndexStr_eq : oIndexStr = rIndexStr := shut_eq _
noncomputable def oIndexA : Nat → Bool → Nat → V → V → Option V := shut (rIndexA)
theorem oIndexA_eq : oIndexA = rIndexA := shut_eq _
noncomputable def oExtract : V → Nat → Option V := shut (rExtract)
theorem oExtract_eq : oExtract = rExtract := shut_eq _
noncomputable def oAssert : TypeId → V → Option V := shut (rAssert)
theorem oAssert_eq : oAssert = rAssert := shut_eq _
noncomputable def oAssert2 : TypeId → V → V → Option V := shut (rAssert2)
theorem oAssert2_eq : oAssert2 = rAssert2 := shut_eq _
noncomputable def oLenStr : V → Option V := shut (rLenStr)
theorem oLenStr_eq : oLenStr = rLenStr := shut_eq _
noncomputable def oLenSl : V → Option V := shut (rLenSl)
theorem oLenSl_eq : oLenSl = rLenSl := shut_eq _
noncomputable def oLenA : Nat → Option V := shut (rLenA)
theorem oLenA_eq : oLenA = rLenA := shut_eq _
noncomputable def oSliceA : Nat → Nat → Bool → V → Option V → Option V → Option V → Heap → Option (V × Heap) := shut (rSliceA)
theorem oSliceA_eq : oSliceA = rSliceA := shut_eq _
noncomputable def oClear : Nat → Nat → List V → V → Heap → Option (V × Heap) := shut (rClear)
theorem oClear_eq : oClear = rClear := shut_eq _
noncomputable def oCopy : Nat → Nat → V → V → Heap → Option (V × Heap) := shut (rCopy)
theorem oCopy_eq : oCopy = rCopy := shut_eq _
noncomputable def oMin : List V → Option V := shut (vFold vMin)
theorem oMin_eq : oMin = vFold vMin := shut_eq _
noncomputable def oMax : List V → Option V := shut (vFold vMax)
theorem oMax_eq : oMax = vFold vMax := shut_eq _
noncomputable def oMove : V → Option V := shut (rMove)
theorem oMove_eq : oMove = rMove := shut_eq _
noncomputable def oLoad : Bool → Nat → Heap → V → Option V := shut (loadV)
theorem oLoad_eq : oLoad = loadV := shut_eq _
noncomputable def oText : Heap → V → Option V := shut (rText)
theorem oText_eq : oText = rText := shut_eq _
noncomputable def oLookup : Nat → V → Heap → V → V → Option V := shut (rLookup)
theorem oLookup_eq : oLookup = rLookup := shut_eq _
noncomputable def oLookup2 : Nat → V → Heap → V → V → Option V := shut (rLookup2)
theorem oLookup2_eq : oLookup2 = rLookup2 := shut_eq _
noncomputable def oLit : Nat → Nat → V → List (Nat × V) → Option V := shut (rLit)
theorem oLit_eq : oLit = rLit := shut_eq _
noncomputable def oVar : Heap → V → Option (V × Heap) := shut (rVar)
theorem oVar_eq : oVar = rVar := shut_eq _
noncomputable def oRow : Nat → Nat → Bool → List V → Heap → List (Nat × V) → Option (V × Heap) := shut (rRow)
theorem oRow_eq : oRow = rRow := shut_eq _
noncomputable def oMake : Nat → Bool → Nat → List V → V → V → Heap → Option (V × Heap) := shut (rMake)
theorem oMake_eq : oMake = rMake := shut_eq _
noncomputable def oMap : Heap → Option (V × Heap) := shut (rMap)
theorem oMap_eq : oMap = rMap := shut_eq _
noncomputable def oUpdate : Nat → Nat → Heap → V → V → V → Option (V × Heap) := shut (rUpdate)
theorem oUpdate_eq : oUpdate = rUpdate := shut_eq _
noncomputable def oStore : Nat → Nat → Heap → V → V → Option (V × Heap) := shut (rStore)
theorem oStore_eq : oStore = rStore := shut_eq _
noncomputable def oBytes : V → Heap → Option (V × Heap) := shut (rBytes)
theorem oBytes_eq : oBytes = rBytes := shut_eq _
noncomputable def oAppend : Nat → Nat → Nat → Bool → V → V → Heap → Option (V × Heap) := shut (rAppend)
theorem oAppend_eq : oAppend = rAppend := shut_eq _
noncomputable def oAppendS : Nat → Nat → Nat → Bool → V → V → Heap → Option (V × Heap) := shut (rAppendS)
theorem oAppendS_eq : oAppendS = rAppendS := shut_eq _

def partsG (g : Operand → V) : List (Nat × Operand) → List (Nat × V)
 | [] => []
 | (i, x) :: r => (i, g x) :: partsG g r
def argsG (g : Operand → V) : List Operand → List V
 | [] => []
 | x :: r => g x :: argsG g r
theorem partsG_eq (t : List V) : ∀ l, partsG (env t) l = evParts t l
 | [] => rfl
 | (i, x) :: r => by rw [partsG, evParts, partsG_eq t r]
theorem argsG_eq (t : List V) : ∀ l, argsG (env t) l = envs t l
 | [] => rfl
 | x :: r => by rw [argsG, envs, argsG_eq t r]

noncomputable def evPureO (P : Program) (g : Operand → V) : Op → Option V
 | .move x | .assign x => oMove (g x)
 | .pick c a b => oPick (g c) (g a) (g b)
 | .build ty parts => match P.underlying ty with
  | some (.struct fs) => match tZero P ty with
   | some z => match placesL P fs.toList with
    | some pl => match scalL z.cells with
     | true => oBuild z.cells pl (partsG g parts.toList)
     | false => none
    | none => none
   | none => none
  | some (.array _ e) => match tZero P ty with
   | some z => match tSize P e with
    | some n => match scalL z.cells with
     | true => oBuildA z.cells n (partsG g parts.toList)
     | false => none
    | none => none
   | none => none
  | _ => none
 | .nilCheck x => oNil (g x)
 | .binOp op ty x y _ => match eqKindOf P ty with
  | 3 => oBinI op (Region.isConst x || Region.isConst y) (g x) (g y)
  | k => oBin op k (g x) (g y)
 | .unOp op _ x => oUn op (g x)
 | .convert src dst x => match (P.underlying src).isSome with
  | true => match P.underlying dst with
   | some (.int k) => oIntTo k (g x)
   | some .string => oToStr (g x)
   | _ => none
  | false => none
 | .makeInterface ty x => match P.underlying ty with
  | some (.interface _) => none
  | some _ => oIface ty (g x)
  | none => none
 | .makeFunc fn first cap => match fn with
  | .func f => match first.size with
   | 0 => oMkFn f (argsG g cap.toList)
   | _ => none
  | _ => none
 | .slice ty x lo hi mx => match P.underlying ty with
  | some .string => oSliceStr (g x) (lo.map g) (hi.map g) (mx.map g)
  | some (.slice e) => match tSize P e with
   | some n => oSlice n (g x) (lo.map g) (hi.map g) (mx.map g)
   | none => none
  | _ => none
 | .fieldAddr ty x f => match tField P ty f with
  | some r => match tSize P r.2 with
   | some (_ + 1) => oFieldPtr (g x) r.1
   | _ => none
  | none => none
 | .field ty x f => match tField P ty f with
  | some r => match tAgg P r.2 with
   | some ag => match tSize P r.2 with
    | some n => oField r.1 ag n (g x)
    | none => none
   | none => none
  | none => none
 | .indexAddr ty x i => match P.underlying ty with
  | some (.slice e) => match tSize P e with
   | some n => oIndexPtr n (g x) (g i)
   | none => none
  | some (.array len e) => match tSize P e with
   | some (n + 1) => oIndexPtrA len (n + 1) (g x) (g i)
   | _ => none
  | _ => none
 | .index ty x i => match P.underlying ty with
  | some .string => oIndexStr (g x) (g i)
  | some (.array len e) => match tAgg P e with
   | some ag => match tSize P e with
    | some n => oIndexA len ag n (g x) (g i)
    | none => none
   | none => none
  | _ => none
 | .extract x i => oExtract (g x) i
 | .typeAssert x _ ty ok => match P.underlying ty with
  | some (.interface _) => none
  | some _ => match ok with
   | true => match tZero P ty with
    | some z => oAssert2 ty z (g x)
    | none => none
   | false => oAssert ty (g x)
  | none => none
 | .call c => match c.callee with
  | .builtin .len => match c.argTypes[0]?, c.args[0]? with
   | some ty, some x => match P.underlying ty with
    | some .string => oLenStr (g x)
    | some (.slice _) => oLenSl (g x)
    | some (.array n _) => oLenA n
    | _ => none
   | _, _ => none
  | .builtin .min => oMin (argsG g c.args.toList)
  | .builtin .max => oMax (argsG g c.args.toList)
  | _ => none
 | _ => none


noncomputable def evLoadO (P : Program) (g : Operand → V) (H : Heap) : Op → Option V
 | .load ty p => match tAgg P ty with
  | some ag => match tSize P ty with
   | some n => oLoad ag n H (g p)
   | none => none
  | none => none
 | .convert src dst x => match P.underlying src with
  | some (.slice e) => match P.underlying dst with
   | some .string => match P.underlying e with
    | some (.int .u8) => oText H (g x)
    | _ => none
   | _ => none
  | _ => none
 | .lookup ty m k ok => match P.underlying ty with
  | some (.map kt et) => match tZero P et with
   | some z => match ok with
    | true => oLookup2 (keyKind P kt) z H (g m) (g k)
    | false => oLookup (keyKind P kt) z H (g m) (g k)
   | none => none
  | _ => none
 | _ => none


noncomputable def evLitO (P : Program) (g : Operand → V) : Op → Option V
 | .buildSlice ty len parts => match tElem P ty with
  | some e => match tSize P e with
   | some n => match tZero P e with
    | some z => match decide (len * n ≤ 16777216) && decide (0 < n) && (z.cells.length == n) && scalL z.cells && z.nrm.clean with
     | true => oLit n len z.nrm (partsG g parts.toList)
     | false => none
    | none => none
   | none => none
  | none => none
 | _ => none

noncomputable def evEffO (P : Program) (base : Nat) (g : Operand → V) (H : Heap) : Op → Option (V × Heap)
 | .alloc ty => match tZero P ty with
  | some z => oVar H z
  | none => none
 | .box _ x => oVar H (g x)
 | .buildSlice ty len parts => match tElem P ty with
  | some e => match tSize P e with
   | some n => match tAgg P e with
    | some ag => match tZero P e with
     | some z => match decide (len * n ≤ 16777216) && (z.cells.length == n) && scalL z.cells with
      | true => oRow len n ag (repl len z.cells) H (partsG g parts.toList)
      | false => none
     | none => none
    | none => none
   | none => none
  | none => none
 | .makeSlice ty l c => match tElem P ty with
  | some e => match tSize P e with
   | some n => match tAgg P e with
    | some ag => match tBytes P e with
     | some by_ => match tZero P e with
      | some z => match (z.cells.length == n) && scalL z.cells with
       | true => oMake n ag by_ z.cells (g l) (g c) H
       | false => none
      | none => none
     | none => none
    | none => none
   | none => none
  | none => none
 | .makeMap ty r => match P.underlying ty with
  | some (.map _ _) => match r with
   | none => oMap H
   | some x => none
  | _ => none
 | .mapUpdate ty m k x | .insert ty m k x => match P.underlying ty with
  | some (.map kt _) => oUpdate base (keyKind P kt) H (g m) (g k) (g x)
  | _ => none
 | .store ty p x => match tSize P ty with
  | some n => oStore base n H (g p) (g x)
  | none => none
 | .convert src dst x => match (P.underlying src).isSome with
  | true => match P.underlying dst with
   | some (.slice e) => match P.underlying e with
    | some (.int .u8) => oBytes (g x) H
    | _ => none
   | _ => none
  | false => none
 | .slice ty x lo hi mx => match P.underlying ty with
  | some (.array len e) => match tSize P e with
   | some n => match tAgg P e with
    | some ag => oSliceA n len ag (g x) (lo.map g) (hi.map g) (mx.map g) H
    | none => none
   | none => none
  | _ => none
 | .call c => match c.callee with
  | .builtin .clear => match c.argTypes[0]?, c.args[0]? with
   | some ty, some x => match tElem P ty with
    | some e => match tSize P e with
     | some n => match tZero P e with
      | some z => oClear base n z.cells (g x) H
      | none => none
     | none => none
    | none => none
   | _, _ => none
  | .builtin .copy => match c.argTypes[0]?, c.args[0]?, c.args[1]? with
   | some ty, some d, some x => match tElem P ty with
    | some e => match tSize P e with
     | some n => oCopy base n (g d) (g x) H
     | none => none
    | none => none
   | _, _, _ => none
  | .builtin .append => match c.argTypes[0]?, c.argTypes[1]?, c.args[0]?, c.args[1]? with
   | some ty, some ty2, some s, some x => match tElem P ty with
    | some e => match tSize P e with
     | some n => match tAgg P e with
      | some ag => match tBytes P e with
       | some by_ => match tZero P e with
        | some z => match (z.cells.length == n) && scalL z.cells with
         | true => match P.underlying ty2 with
          | some (.slice _) => oAppend base n by_ ag (g s) (g x) H
          | some .string => oAppendS base n by_ ag (g s) (g x) H
          | _ => none
         | false => none
        | none => none
       | none => none
      | none => none
     | none => none
    | none => none
   | _, _, _, _ => none
  | _ => none
 | _ => none



theorem pureO_eq (P : Program) (t : List V) (op : Op) : evPureO P (env t) op = evPureR P t op := by
 cases op <;> simp only [evPureO, evPureR, partsG_eq, argsG_eq, oPick_eq, oBuild_eq, oBuildA_eq, oNil_eq, oBin_eq, oBinI_eq, oUn_eq, oIntTo_eq, oToStr_eq, oIface_eq, oMkFn_eq, oSliceStr_eq, oSlice_eq, oFieldPtr_eq, oField_eq, oIndexPtr_eq, oIndexPtrA_eq, oIndexStr_eq, oIndexA_eq, oExtract_eq, oAssert_eq, oAssert2_eq, oLenStr_eq, oLenSl_eq, oLenA_eq, oMin_eq, oMax_eq, oMove_eq, oLoad_eq, oText_eq, oLookup_eq, oLookup2_eq, oLit_eq, oVar_eq, oRow_eq, oMake_eq, oMap_eq, oUpdate_eq, oStore_eq, oBytes_eq, oAppend_eq, oAppendS_eq, oSliceA_eq, oClear_eq, oCopy_eq] <;> rfl
theorem loadO_eq (P : Program) (t : List V) (H : Heap) (op : Op) : evLoadO P (env t) H op = evLoadR P t H op := by
 cases op <;> simp only [evLoadO, evLoadR, partsG_eq, argsG_eq, oPick_eq, oBuild_eq, oBuildA_eq, oNil_eq, oBin_eq, oBinI_eq, oUn_eq, oIntTo_eq, oToStr_eq, oIface_eq, oMkFn_eq, oSliceStr_eq, oSlice_eq, oFieldPtr_eq, oField_eq, oIndexPtr_eq, oIndexPtrA_eq, oIndexStr_eq, oIndexA_eq, oExtract_eq, oAssert_eq, oAssert2_eq, oLenStr_eq, oLenSl_eq, oLenA_eq, oMin_eq, oMax_eq, oMove_eq, oLoad_eq, oText_eq, oLookup_eq, oLookup2_eq, oLit_eq, oVar_eq, oRow_eq, oMake_eq, oMap_eq, oUpdate_eq, oStore_eq, oBytes_eq, oAppend_eq, oAppendS_eq, oSliceA_eq, oClear_eq, oCopy_eq] <;> rfl
theorem litO_eq (P : Program) (t : List V) (op : Op) : evLitO P (env t) op = evLitR P t op := by
 cases op <;> simp only [evLitO, evLitR, partsG_eq, argsG_eq, oPick_eq, oBuild_eq, oBuildA_eq, oNil_eq, oBin_eq, oBinI_eq, oUn_eq, oIntTo_eq, oToStr_eq, oIface_eq, oMkFn_eq, oSliceStr_eq, oSlice_eq, oFieldPtr_eq, oField_eq, oIndexPtr_eq, oIndexPtrA_eq, oIndexStr_eq, oIndexA_eq, oExtract_eq, oAssert_eq, oAssert2_eq, oLenStr_eq, oLenSl_eq, oLenA_eq, oMin_eq, oMax_eq, oMove_eq, oLoad_eq, oText_eq, oLookup_eq, oLookup2_eq, oLit_eq, oVar_eq, oRow_eq, oMake_eq, oMap_eq, oUpdate_eq, oStore_eq, oBytes_eq, oAppend_eq, oAppendS_eq, oSliceA_eq, oClear_eq, oCopy_eq] <;> rfl
theorem effO_eq (P : Program) (base : Nat) (t : List V) (H : Heap) (op : Op) : evEffO P base (env t) H op = evEffR P base t H op := by
 cases op <;> simp only [evEffO, evEffR, partsG_eq, argsG_eq, oPick_eq, oBuild_eq, oBuildA_eq, oNil_eq, oBin_eq, oBinI_eq, oUn_eq, oIntTo_eq, oToStr_eq, oIface_eq, oMkFn_eq, oSliceStr_eq, oSlice_eq, oFieldPtr_eq, oField_eq, oIndexPtr_eq, oIndexPtrA_eq, oIndexStr_eq, oIndexA_eq, oExtract_eq, oAssert_eq, oAssert2_eq, oLenStr_eq, oLenSl_eq, oLenA_eq, oMin_eq, oMax_eq, oMove_eq, oLoad_eq, oText_eq, oLookup_eq, oLookup2_eq, oLit_eq, oVar_eq, oRow_eq, oMake_eq, oMap_eq, oUpdate_eq, oStore_eq, oBytes_eq, oAppend_eq, oAppendS_eq, oSliceA_eq, oClear_eq, oCopy_eq] <;> rfl
end Go.Ev
end

section
/- The evaluator with what comes next as a function, made of shut parts, loops without fuel. -/
namespace Go.Ev
set_option linter.unusedVariables false
variable {α : Type} {β : Type}

noncomputable def bnd {α : Type} : Option V → (V → Option α) → Option α := shut Option.bind
theorem bnd_eq (x : Option V) (f : V → Option α) : bnd x f = x.bind f := by unfold bnd; rw [shut_eq]
def beff0 (x : Option (V × Heap)) (f : V → Heap → Option α) : Option α := x.bind fun r => f r.1 r.2
noncomputable def beff {α : Type} : Option (V × Heap) → (V → Heap → Option α) → Option α := shut beff0
theorem beff_eq (x : Option (V × Heap)) (f : V → Heap → Option α) : beff x f = x.bind fun r => f r.1 r.2 := by unfold beff; rw [shut_eq]; rfl
def bcall0 (x : Option (Out × Heap)) (f g : V → Heap → Option α) : Option α := x.bind fun r => outK r.1 (fun v => f v r.2) (fun v => g v r.2)
noncomputable def bcall {α : Type} : Option (Out × Heap) → (V → Heap → Option α) → (V → Heap → Option α) → Option α := shut bcall0
theorem bcall_eq (x : Option (Out × Heap)) (f g : V → Heap → Option α) : bcall x f g = x.bind fun r => outK r.1 (fun v => f v r.2) (fun v => g v r.2) := by unfold bcall; rw [shut_eq]; rfl
noncomputable def bdef {α : Type} : Option (FuncId × List V) → (FuncId × List V → Option α) → Option α := shut Option.bind
theorem bdef_eq (x : Option (FuncId × List V)) (f : FuncId × List V → Option α) : bdef x f = x.bind f := by unfold bdef; rw [shut_eq]
noncomputable def gua {β : Type} : V → Bool → Option β → Option β → Option β := shut guardV
theorem gua_eq (v : V) (w : Bool) (a b : Option β) : gua v w a b = guardV v w a b := by unfold gua; rw [shut_eq]
noncomputable def cnd {α : Type} : V → Option α → Option α → Option α := shut condV
theorem cnd_eq (v : V) (a b : Option α) : cnd v a b = condV v a b := by unfold cnd; rw [shut_eq]
noncomputable def sch {α : Type} : Bool → Option α → Option α := shut chk
theorem sch_eq (b : Bool) (a : Option α) : sch b a = chk b a := by unfold sch; rw [shut_eq]
noncomputable def sam : Option V → V → Bool := shut same
theorem sam_eq : sam = same := shut_eq _
noncomputable def tlb : Option V → (V → Bool) → Bool := shut tailB
theorem tlb_eq : tlb = tailB := shut_eq _
noncomputable def oFn : V → List V → Option (FuncId × List V) := shut rFn
theorem oFn_eq : oFn = rFn := shut_eq _
noncomputable def oPanic : V → Option V := shut rPanic
theorem oPanic_eq : oPanic = rPanic := shut_eq _
def rDyn (call : CallO) (f : V) (args : List V) (H : Heap) : Option (Out × Heap) := (rFn f args).bind fun q => call q.1 q.2 H
noncomputable def oDyn : CallO → V → List V → Heap → Option (Out × Heap) := shut rDyn
theorem oDyn_eq : oDyn = rDyn := shut_eq _

/-- What an operand is. -/
def envA (n : Nat) (t : Ts) : Operand → V
 | .tmp i => match Nat.blt i n with
  | true => getA i t
  | false => .junk
 | .const v => ofValue v
 | .global _ => .junk
 | .func f => .fn f []
theorem envA_eq (n : Nat) (t : Ts) : env (tl n t) = envA n t := by
 funext x
 cases x with
 | tmp i =>
  simp only [env, envA, List.getD_eq_getElem?_getD, tl_get]
  by_cases h : i < n
  ·have : Nat.blt i n = true := by rw [Nat.blt_eq]; exact h
   simp [h, this]
  ·have : Nat.blt i n = false := by
    cases hb : Nat.blt i n with
    | false => rfl
    | true => rw [Nat.blt_eq] at hb; exact absurd hb h
   simp [h, this]
 | _ => rfl

/-- A temporary that is another one. -/
def aliasOf (o : Oper) : Option Operand :=
 match o.guard with
 | some _ => none
 | none => match o.op with
  | .move x | .assign x => some x
  | _ => none

noncomputable def guaK {β : Type} (ops : List Oper) (g : Operand → V) (o : Oper) (a b : Option β) : Option β :=
 match o.guard with
 | none => a
 | some (j, want) => match ops[j]? with
  | none => b
  | some oj => match oj.dst with
   | none => b
   | some d => gua (g (.tmp d)) want a b

noncomputable def callX (call : CallO) (g : Operand → V) (H : Heap) : Op → Option (Out × Heap)
 | .call c => match c.callee with
  | .value f => match f with
   | .func i => call i (argsG g c.args.toList) H
   | f => oDyn call (g f) (argsG g c.args.toList) H
  | _ => none
 | _ => none
noncomputable def panX (g : Operand → V) : Op → Option V
 | .panic x => oPanic (g x)
 | .call c => match c.callee with
  | .builtin .panic => match c.args[0]? with
   | some x => oPanic (g x)
   | none => none
  | _ => none
 | _ => none
noncomputable def defX (g : Operand → V) : Op → Option (FuncId × List V)
 | .defer c => match c.callee with
  | .value f => oFn (g f) (argsG g c.args.toList)
  | _ => none
 | _ => none

section
variable (P : Program) (base : Nat) (own : Bool) (call : CallO) (ops : List Oper) (n : Nat) (k : KC α)

noncomputable def xOps : List Oper → Ts → Heap → Ds → Option α
 | [], t, H, d => k .normal t H d
 | o :: rest, t, H, d => match aliasOf o with
  | some x => xOps rest (putA t o.dst (envA n t x)) H d
  | none => match kindOf P own ops o.dst o.op with
   | .defer => match o.guard with
    | none => bdef (defX (envA n t) o.op) fun r => xOps rest (putA t o.dst (.tup [])) H (r :: d)
    | some _ => none
   | .pure => bnd (guaK ops (envA n t) o (evPureO P (envA n t) o.op) (some (.tup []))) fun v => xOps rest (putA t o.dst v) H d
   | .lit => bnd (guaK ops (envA n t) o (evLitO P (envA n t) o.op) (some (.tup []))) fun v => xOps rest (putA t o.dst v) H d
   | .load => bnd (guaK ops (envA n t) o (evLoadO P (envA n t) H o.op) (some (.tup []))) fun v => xOps rest (putA t o.dst v) H d
   | .eff | .fresh => beff (guaK ops (envA n t) o (evEffO P base (envA n t) H o.op) (some (.tup [], H))) fun v H' => xOps rest (putA t o.dst v) H' d
   | .call => bcall (guaK ops (envA n t) o (callX call (envA n t) H o.op) (some (.ret (.tup []), H))) (fun v H' => xOps rest (putA t o.dst v) H' d) (fun v H' => k (.pan v) t H' d)
   | .panic => match o.guard with
    | none => bnd (panX (envA n t) o.op) fun v => k (.pan v) t H d
    | some _ => none
   | .none => none

/-- The checks of a load against effects that may come elsewhere. -/
noncomputable def chkE (ms : List Nat) (i : Nat) (op : Op) (g : Operand → V) (v : V) : List (Nat × Heap) → Option β → Option β
 | [], a => a
 | (e, H) :: r, a => match ahead ms i e with
  | true => chkE ms i op g v r a
  | false => sch (sam (evLoadO P g H op) v) (chkE ms i op g v r a)
def hasE (ms : List Nat) (i : Nat) : List (Nat × Heap) → Bool
 | [] => false
 | (e, H) :: r => match ahead ms i e with
  | true => hasE ms i r
  | false => true
noncomputable def loadE (ms : List Nat) (i : Nat) (op : Op) (g : Operand → V) (es : List (Nat × Heap)) (x : Option V) : Option V :=
 match hasE ms i es with
 | false => x
 | true => bnd x fun v => chkE P ms i op g v es (some v)
/-- Behind a panic. -/
noncomputable def xTail (ms : List Nat) (p : Nat) (es : List (Nat × Heap)) : Nat → List Oper → Ts → Heap → Bool
 | _, [], _, _ => true
 | i, o :: rest, t, H =>
  match ahead ms i p with
  | true => xTail ms p es (i + 1) rest t H
  | false => match kindOf P own ops o.dst o.op with
   | .pure => tlb (guaK ops (envA n t) o (evPureO P (envA n t) o.op) (some (.tup []))) fun v => xTail ms p es (i + 1) rest (putA t o.dst v) H
   | .lit => tlb (guaK ops (envA n t) o (evLitO P (envA n t) o.op) (some (.tup []))) fun v => xTail ms p es (i + 1) rest (putA t o.dst v) H
   | .load => tlb (guaK ops (envA n t) o (loadE P ms i o.op (envA n t) es (evLoadO P (envA n t) H o.op)) (some (.tup []))) fun v => xTail ms p es (i + 1) rest (putA t o.dst v) H
   | _ => false

structure LdX where
 i : Nat
 op : Op
 g : Operand → V
 v : V
noncomputable def chkL (ms : List Nat) (j : Nat) (H : Heap) : List LdX → Option β → Option β
 | [], a => a
 | l :: r, a => match ahead ms j l.i with
  | true => chkL ms j H r a
  | false => sch (sam (evLoadO P l.g H l.op) l.v) (chkL ms j H r a)
/-- Nothing is left behind a panic but what waits for it. -/
def allAhead (ms : List Nat) (p : Nat) : Nat → List Oper → Bool
 | _, [] => true
 | i, _ :: r => match ahead ms i p with
  | true => allAhead ms p (i + 1) r
  | false => false
noncomputable def chkT (ms : List Nat) (p : Nat) (es : List (Nat × Heap)) (i : Nat) (rest : List Oper) (t : Ts) (H : Heap) (a : Option β) : Option β :=
 match allAhead ms p i rest with
 | true => a
 | false => sch (xTail P own ops n ms p es i rest t H) a

noncomputable def xDraw (t0 : Ts) (ms : List Nat) : Nat → List Oper → List LdX → List (Nat × Heap) → Ts → Heap → Ds → Option α
 | _, [], _, _, t, H, d => k .normal t H d
 | i, o :: rest, ls, es, t, H, d => match aliasOf o with
  | some x => xDraw t0 ms (i + 1) rest ls es (putA t o.dst (envA n t x)) H d
  | none => match kindOf P own ops o.dst o.op with
   | .pure => bnd (guaK ops (envA n t) o (evPureO P (envA n t) o.op) (some (.tup []))) fun v => xDraw t0 ms (i + 1) rest ls es (putA t o.dst v) H d
   | .lit => bnd (guaK ops (envA n t) o (evLitO P (envA n t) o.op) (some (.tup []))) fun v => xDraw t0 ms (i + 1) rest ls es (putA t o.dst v) H d
   | .load => match later P own ops ms i with
    | true => bnd (guaK ops (envA n t) o (loadE P ms i o.op (envA n t) es (evLoadO P (envA n t) H o.op)) (some (.tup []))) fun v => xDraw t0 ms (i + 1) rest ls es (putA t o.dst v) H d
    | false => match o.guard with
     | none => bnd (evLoadO P (envA n t) H o.op) fun v => chkE P ms i o.op (envA n t) v es (xDraw t0 ms (i + 1) rest ({ i, op := o.op, g := envA n t, v } :: ls) es (putA t o.dst v) H d)
     | some _ => none
   | .eff | .fresh => beff (guaK ops (envA n t) o (evEffO P base (envA n t) H o.op) (some (.tup [], H))) fun v H' => chkL P ms i H' ls (xDraw t0 ms (i + 1) rest ls ((i, H) :: es) (putA t o.dst v) H' d)
   | .call => bcall (guaK ops (envA n t) o (callX call (envA n t) H o.op) (some (.ret (.tup []), H)))
     (fun v H' => chkL P ms i H' ls (xDraw t0 ms (i + 1) rest ls ((i, H) :: es) (putA t o.dst v) H' d))
     (fun v H' => chkT P own ops n ms i es (i + 1) rest t H (k (.pan v) (forgetA ops t0) H' d))
   | .panic => match o.guard with
    | none => bnd (panX (envA n t) o.op) fun v => chkT P own ops n ms i es (i + 1) rest t H (k (.pan v) (forgetA ops t0) H d)
    | some _ => none
   | .defer | .none => none
end

/-- What a row of answers comes to. -/
noncomputable def lim (f : Nat → Option α) : Option α := by
 classical exact if h : ∃ x n, f n = some x then some (Classical.choose h) else none
def Mono (f : Nat → Option α) : Prop := ∀ n x, f n = some x → f (n + 1) = some x
theorem Mono.le {f : Nat → Option α} (h : Mono f) {n m : Nat} (hnm : n ≤ m) {x : α} (hx : f n = some x) : f m = some x := by
 induction hnm with
 | refl => exact hx
 | step _ ih => exact h _ _ ih
theorem lim_some {f : Nat → Option α} {x : α} (h : lim f = some x) : ∃ n, f n = some x := by
 unfold lim at h
 split at h
 ·rename_i hx
  injection h with h
  obtain ⟨n, hn⟩ := Classical.choose_spec hx
  exact ⟨n, by rw [hn, h]⟩
 ·simp at h
theorem lim_of {f : Nat → Option α} (hm : Mono f) {n : Nat} {x : α} (h : f n = some x) : lim f = some x := by
 have hx : ∃ x n, f n = some x := ⟨x, n, h⟩
 unfold lim
 rw [dif_pos hx]
 obtain ⟨m, hc⟩ := Classical.choose_spec hx
 have h1 := hm.le (Nat.le_max_left n m) h
 have h2 := hm.le (Nat.le_max_right n m) hc
 rw [h1] at h2
 injection h2 with h2
 rw [h2]
theorem ext_some {x y : Option α} (h1 : ∀ a, x = some a → y = some a) (h2 : ∀ a, y = some a → x = some a) : x = y := by
 cases x with
 | some a => rw [h1 a rfl]
 | none => cases y with
  | some b => exact h2 b rfl
  | none => rfl

noncomputable def iterL (f : Ts → Heap → Ds → (Ts → Heap → Ds → Option α) → Option α) (t : Ts) (H : Heap) (d : Ds) : Option α := lim fun n => iter f n t H d

open Classical in
/-- The two ways come to the same heap. -/
noncomputable def sameX0 (H H' : Heap) (x : Option α) : Option α := if H = H' then x else none
noncomputable def sameX {α : Type} : Heap → Heap → Option α → Option α := shut sameX0
theorem sameX_eq (H H' : Heap) (x : Option α) : sameX H H' x = sameX0 H H' x := by unfold sameX; rw [shut_eq]
theorem sameX_some {H H' : Heap} {x : Option α} {y : α} (h : sameX H H' x = some y) : H = H' ∧ x = some y := by
 rw [sameX_eq] at h
 unfold sameX0 at h
 split at h
 ·exact ⟨by assumption, h⟩
 ·cases h
@[simp] theorem sameX_rfl (H : Heap) (x : Option α) : sameX H H x = x := by rw [sameX_eq]; simp [sameX0]
noncomputable def xTwoK (P : Program) (base : Nat) (own : Bool) (call : CallO) (ops : List Oper) (i n : Nat) (k : KC α) (t : Ts) (H : Heap) (d : Ds) : KC α := fun e t' H' d' => match e with
 | .normal => xOps P base own call (addE ops i) n (fun e2 t2 H2 d2 => match e2 with
  | .normal => sameX H' H2 (k .normal t' H' d')
  | _ => none) (permB (addE ops i) i) t H d
 | _ => none
noncomputable def xC (P : Program) (base : Nat) (own : Bool) (ks : Ks) (call : CallO) (n : Nat) : Code → KC α → Ts → Heap → Ds → Option α
 | .skip, k, t, H, d | .label _, k, t, H, d => k .normal t H d
 | .region _ ops draw, k, t, H, d =>
  match draw with
  | true => match drawOk P own ops.toList with
   | true => xDraw P base own call ops.toList n k t (masks ops.toList []) 0 ops.toList [] [] t H d
   | false => match twoB P own ops.toList with
    | some i => xDraw P base own call (addE ops.toList i) n (xTwoK P base own call ops.toList i n k t H d) t (masks (addE ops.toList i) []) 0 (addE ops.toList i) [] [] t H d
    | none => none
  | false => xOps P base own call ops.toList n k ops.toList t H d
 | .seq a b, k, t, H, d => xC P base own ks call n a (seqK (fun _ t => xC P base own ks call n b k (trimA ks b t)) k) t H d
 | .cond c a b, k, t, H, d => cnd (envA n t c) (xC P base own ks call n a k t H d) (xC P base own ks call n b k t H d)
 | .block id b, k, t, H, d => xC P base own ks call n b (blockK id k) t H d
 | .loop b, k, t, H, d => iterL (fun t H d again => xC P base own ks call n b (loopK ks b again k) t H d) (trimA ks b t) H d
 | .scope b, k, t, H, d => xC P base own ks call n b k t H d
 | .exit id, k, t, H, d => k (.exit id) t H d
 | .ret, k, t, H, d => k .ret t H d
 | _, _, _, _, _ => none

/-! It says no more than the other one. -/
section
variable {P : Program} {base : Nat} {own : Bool} {call : CallO} {ops : List Oper} {n : Nat} {k : KC α}

theorem guaK_eq (t : Ts) (o : Oper) (a b : Option β) : guaK ops (envA n t) o a b = guardK ops (tl n t) o a b := by
 unfold guaK guardK
 cases hg : o.guard with
 | none => rfl
 | some jw =>
  obtain ⟨j, want⟩ := jw
  simp only
  cases hj : ops[j]? with
  | none => simp
  | some oj =>
   simp only [Option.bind_some]
   cases hd : oj.dst with
   | none => rfl
   | some d => simp only [hd]; rw [gua_eq, ← envA_eq]; rfl
theorem pureX {t : Ts} {op : Op} : evPureO P (envA n t) op = evPureR P (tl n t) op := by rw [← envA_eq, pureO_eq]
theorem litX {t : Ts} {op : Op} : evLitO P (envA n t) op = evLitR P (tl n t) op := by rw [← envA_eq, litO_eq]
theorem loadX {t : Ts} {H : Heap} {op : Op} : evLoadO P (envA n t) H op = evLoadR P (tl n t) H op := by rw [← envA_eq, loadO_eq]
theorem effX {t : Ts} {H : Heap} {op : Op} : evEffO P base (envA n t) H op = evEffR P base (tl n t) H op := by rw [← envA_eq, effO_eq]
theorem callX_eq {t : Ts} {H : Heap} {op : Op} {r : Out × Heap} (h : callX call (envA n t) H op = some r) : ((evCallee (tl n t) op).bind fun r => call r.1 r.2 H) = some r := by
 cases op <;> simp only [callX] at h <;> (try (simp at h; done))
 rename_i c
 simp only [evCallee]
 split at h
 ·rename_i f hc
  simp only [hc]
  split at h
  ·rw [← envA_eq, argsG_eq] at h
   simp only [env, List.append_nil, Option.bind_some]
   exact h
  ·rw [oDyn_eq] at h
   unfold rDyn rFn at h
   rw [← envA_eq, argsG_eq] at h
   exact h
 ·simp at h
theorem panX_eq {t : Ts} {op : Op} : panX (envA n t) op = evPanic (tl n t) op := by
 rw [← envA_eq]
 cases op <;> (try simp only [panX, evPanic, oPanic_eq, rPanic]) <;> rfl
theorem defX_eq {t : Ts} {op : Op} : defX (envA n t) op = evDefer (tl n t) op := by
 rw [← envA_eq]
 cases op <;> (try simp only [defX, evDefer, oFn_eq, rFn, argsG_eq]) <;> rfl
theorem aliasOf_some {o : Oper} {x : Operand} (h : aliasOf o = some x) : o.guard = none ∧ (o.op = .move x ∨ o.op = .assign x) := by
 unfold aliasOf at h
 split at h
 ·simp at h
 ·rename_i hg
  refine ⟨hg, ?_⟩
  split at h
  ·injection h with h; subst h; exact .inl ‹_›
  ·injection h with h; subst h; exact .inr ‹_›
  ·simp at h
theorem alias_kind {o : Oper} {x : Operand} (h : aliasOf o = some x) : kindOf P own ops o.dst o.op = .pure := by
 obtain ⟨_, h | h⟩ := aliasOf_some h <;> rw [h] <;> rfl
theorem alias_pure {o : Oper} {x : Operand} {t : Ts} (h : aliasOf o = some x) : guardK ops (tl n t) o (evPureR P (tl n t) o.op) (some (.tup [])) = some (envA n t x) := by
 obtain ⟨hg, h | h⟩ := aliasOf_some h <;> unfold guardK <;> simp only [hg, h, evPureR, rMove] <;> rw [envA_eq]
theorem bindO {γ δ : Type} {x : Option γ} {f : γ → Option δ} {y : δ} (h : x.bind f = some y) : ∃ a, x = some a ∧ f a = some y := Option.bind_eq_some_iff.1 h

theorem guard_le {t : Ts} {o : Oper} {a a' b : Option β} {x : β} (ha : ∀ x, a = some x → a' = some x) (h : guaK ops (envA n t) o a b = some x) : guardK ops (tl n t) o a' b = some x := by
 rw [guaK_eq] at h
 unfold guardK at h ⊢
 cases hg : o.guard with
 | none => simp only [hg] at h ⊢; exact ha _ h
 | some jw =>
  obtain ⟨j, want⟩ := jw
  simp only [hg] at h ⊢
  cases hd : (ops[j]?).bind (·.dst) with
  | none => simp only [hd] at h ⊢; exact h
  | some d =>
   simp only [hd] at h ⊢
   generalize (tl n t).getD d .junk = y at h ⊢
   cases y with
   | bool c => simp only [guardV] at h ⊢; split <;> simp_all
   | tup vs => simp only [guardV] at h ⊢; exact h
   | _ => simp [guardV] at h

theorem xOps_le : ∀ (l : List Oper) {t : Ts} {H : Heap} {d : Ds} {x : α}, xOps P base own call ops n k l t H d = some x → kOps P base own call ops n k l t H d = some x
 | [], t, H, d, x, h => h
 | o :: rest, t, H, d, x, h => by
  simp only [xOps] at h
  simp only [kOps]
  split at h
  ·rename_i y hy
   simp only [alias_kind hy, alias_pure hy, Option.bind_some]
   exact xOps_le rest h
  ·split at h <;> rename_i hk <;> (try simp only [hk])
   ·split at h
    ·rename_i hg
     rw [bdef_eq] at h
     obtain ⟨r, h1, h2⟩ := bindO h
     rw [defX_eq] at h1
     simp only [hg, Option.isNone_none, if_true]
     rw [h1]
     exact xOps_le rest h2
    ·simp at h
   ·rw [bnd_eq] at h
    obtain ⟨v, h1, h2⟩ := bindO h
    rw [guard_le (fun x hx => by rw [← pureX]; exact hx) h1]
    exact xOps_le rest h2
   ·rw [bnd_eq] at h
    obtain ⟨v, h1, h2⟩ := bindO h
    rw [guard_le (fun x hx => by rw [← litX]; exact hx) h1]
    exact xOps_le rest h2
   ·rw [bnd_eq] at h
    obtain ⟨v, h1, h2⟩ := bindO h
    rw [guard_le (fun x hx => by rw [← loadX]; exact hx) h1]
    exact xOps_le rest h2
   ·rw [beff_eq] at h
    obtain ⟨v, h1, h2⟩ := bindO h
    rw [guard_le (fun x hx => by rw [← effX]; exact hx) h1]
    exact xOps_le rest h2
   ·rw [beff_eq] at h
    obtain ⟨v, h1, h2⟩ := bindO h
    rw [guard_le (fun x hx => by rw [← effX]; exact hx) h1]
    exact xOps_le rest h2
   ·rw [bcall_eq] at h
    obtain ⟨r, h1, h2⟩ := bindO h
    rw [guard_le (fun x hx => callX_eq hx) h1]
    simp only [Option.bind_some]
    obtain ⟨r, H'⟩ := r
    cases r with
    | ret v => exact xOps_le rest h2
    | pan v => exact h2
   ·split at h
    ·rename_i hg
     rw [bnd_eq] at h
     obtain ⟨v, h1, h2⟩ := bindO h
     rw [panX_eq] at h1
     unfold guardK
     simp only [hg, h1, Option.map_some, Option.bind_some]
     exact h2
    ·simp at h
   ·simp at h

theorem sch_some {b : Bool} {a : Option β} {x : β} (h : sch b a = some x) : b = true ∧ a = some x := by rw [sch_eq] at h; exact chk_some h
theorem same_le {a a' : Option V} {v : V} (ha : ∀ x, a = some x → a' = some x) (h : same a v = true) : same a' v = true := by
 cases a with
 | none => simp [same] at h
 | some y => rw [ha y rfl]; exact h
theorem chkE_some {ms : List Nat} {i : Nat} {op : Op} {t : Ts} {v : V} : ∀ {es : List (Nat × Heap)} {a : Option β} {x : β}, chkE P ms i op (envA n t) v es a = some x → effsOk P ms i op (tl n t) v es = true ∧ a = some x
 | [], a, x, h => ⟨rfl, h⟩
 | (e, H) :: r, a, x, h => by
  simp only [chkE] at h
  simp only [effsOk]
  split at h
  ·rename_i ha
   obtain ⟨h1, h2⟩ := chkE_some h
   exact ⟨by rw [ha, h1]; rfl, h2⟩
  ·obtain ⟨h0, h⟩ := sch_some h
   obtain ⟨h1, h2⟩ := chkE_some h
   rw [sam_eq, loadX] at h0
   exact ⟨by rw [h1, same_le (fun x hx => loadR_load hx) h0]; simp, h2⟩
theorem hasE_false {ms : List Nat} {i : Nat} {op : Op} {t : List V} {v : V} : ∀ {es : List (Nat × Heap)}, hasE ms i es = false → effsOk P ms i op t v es = true
 | [], h => rfl
 | (e, H) :: r, h => by
  simp only [hasE] at h
  simp only [effsOk]
  split at h
  ·rename_i ha; rw [ha, hasE_false h]; rfl
  ·simp at h
theorem loadE_some {ms : List Nat} {i : Nat} {op : Op} {t : Ts} {es : List (Nat × Heap)} {H : Heap} {v : V} (h : loadE P ms i op (envA n t) es (evLoadO P (envA n t) H op) = some v) :
  ((evLoadR P (tl n t) H op).bind fun v => chk (effsOk P ms i op (tl n t) v es) (some v)) = some v := by
 unfold loadE at h
 split at h
 ·rename_i he
  rw [loadX] at h
  rw [h]
  simp only [Option.bind_some]
  rw [hasE_false he]; rfl
 ·rw [bnd_eq] at h
  obtain ⟨u, h1, h2⟩ := bindO h
  obtain ⟨h3, h4⟩ := chkE_some h2
  injection h4 with h4; subst h4
  rw [loadX] at h1
  rw [h1]
  simp only [Option.bind_some]
  rw [h3]; rfl
theorem xTail_le {ms : List Nat} {p : Nat} {es : List (Nat × Heap)} : ∀ (l : List Oper) {i : Nat} {t : Ts} {H : Heap}, xTail P own ops n ms p es i l t H = true → kTail P own ops n ms p es i l t H = true
 | [], i, t, H, h => rfl
 | o :: rest, i, t, H, h => by
  simp only [xTail] at h
  simp only [kTail]
  split at h
  ·rename_i ha; rw [if_pos ha]; exact xTail_le rest h
  ·rename_i ha
   rw [if_neg (by simp [ha])]
   split at h <;> rename_i hk <;> (try simp only [hk])
   ·rw [tlb_eq] at h
    obtain ⟨v, h1, h2⟩ := tailB_some h
    rw [guard_le (fun x hx => by rw [← pureX]; exact hx) h1]
    exact xTail_le rest h2
   ·rw [tlb_eq] at h
    obtain ⟨v, h1, h2⟩ := tailB_some h
    rw [guard_le (fun x hx => by rw [← litX]; exact hx) h1]
    exact xTail_le rest h2
   ·rw [tlb_eq] at h
    obtain ⟨v, h1, h2⟩ := tailB_some h
    rw [guard_le (fun x hx => loadE_some hx) h1]
    exact xTail_le rest h2
   ·simp at h

/-- Loads, as the other one keeps them. -/
inductive LdsR (n : Nat) : List LdX → List Ld → Prop
 | nil : LdsR n [] []
 | cons {l l'} {i : Nat} {op : Op} {t : Ts} {v : V} : LdsR n l l' → LdsR n ({ i, op, g := envA n t, v } :: l) ({ i, op, t := tl n t, v } :: l')
theorem chkL_some {ms : List Nat} {j : Nat} {H : Heap} {ls : List LdX} {ls' : List Ld} (hl : LdsR n ls ls') : ∀ {a : Option β} {x : β}, chkL P ms j H ls a = some x → ldsOk P ms j H ls' = true ∧ a = some x := by
 induction hl with
 | nil => exact fun {a x} h => ⟨rfl, h⟩
 | cons hl ih =>
  intro a x h
  simp only [chkL] at h
  simp only [ldsOk]
  split at h
  ·rename_i ha
   obtain ⟨h1, h2⟩ := ih h
   exact ⟨by rw [ha, h1]; rfl, h2⟩
  ·obtain ⟨h0, h⟩ := sch_some h
   obtain ⟨h1, h2⟩ := ih h
   rw [sam_eq, loadX] at h0
   exact ⟨by rw [h1, same_le (fun x hx => loadR_load hx) h0]; simp, h2⟩
theorem allAhead_tail {ms : List Nat} {p : Nat} {es : List (Nat × Heap)} {t : Ts} {H : Heap} : ∀ {l : List Oper} {i : Nat}, allAhead ms p i l = true → kTail P own ops n ms p es i l t H = true
 | [], i, h => rfl
 | o :: r, i, h => by
  simp only [allAhead] at h
  simp only [kTail]
  split at h
  ·rename_i ha; rw [if_pos ha]; exact allAhead_tail h
  ·simp at h
theorem chkT_some {ms : List Nat} {p : Nat} {es : List (Nat × Heap)} {i : Nat} {rest : List Oper} {t : Ts} {H : Heap} {a : Option β} {x : β} (h : chkT P own ops n ms p es i rest t H a = some x) :
  chk (kTail P own ops n ms p es i rest t H) a = some x := by
 unfold chkT at h
 split at h
 ·rename_i ha; rw [allAhead_tail ha]; exact h
 ·obtain ⟨h1, h2⟩ := sch_some h
  rw [xTail_le _ h1]; exact h2

theorem xDraw_le {t0 : Ts} {ms : List Nat} : ∀ (l : List Oper) {i : Nat} {ls : List LdX} {ls' : List Ld} {es : List (Nat × Heap)} {t : Ts} {H : Heap} {d : Ds} {x : α}, LdsR n ls ls' →
  xDraw P base own call ops n k t0 ms i l ls es t H d = some x → kDraw P base own call ops n k t0 ms i l ls' es t H d = some x
 | [], i, ls, ls', es, t, H, d, x, hl, h => h
 | o :: rest, i, ls, ls', es, t, H, d, x, hl, h => by
  simp only [xDraw] at h
  simp only [kDraw]
  split at h
  ·rename_i y hy
   simp only [alias_kind hy, alias_pure hy, Option.bind_some]
   exact xDraw_le rest hl h
  ·split at h <;> rename_i hk <;> (try simp only [hk])
   ·rw [bnd_eq] at h
    obtain ⟨v, h1, h2⟩ := bindO h
    rw [guard_le (fun x hx => by rw [← pureX]; exact hx) h1]
    exact xDraw_le rest hl h2
   ·rw [bnd_eq] at h
    obtain ⟨v, h1, h2⟩ := bindO h
    rw [guard_le (fun x hx => by rw [← litX]; exact hx) h1]
    exact xDraw_le rest hl h2
   ·split at h
    ·rename_i hla
     rw [if_pos hla]
     rw [bnd_eq] at h
     obtain ⟨v, h1, h2⟩ := bindO h
     rw [guard_le (fun x hx => loadE_some hx) h1]
     exact xDraw_le rest hl h2
    ·rename_i hla
     rw [if_neg (by simp [hla])]
     split at h
     ·rename_i hg
      simp only [hg, Option.isNone_none, if_true]
      rw [bnd_eq] at h
      obtain ⟨v, h1, h2⟩ := bindO h
      obtain ⟨h3, h4⟩ := chkE_some h2
      rw [loadX] at h1
      rw [h1]
      simp only [Option.bind_some]
      rw [h3]
      exact xDraw_le rest (.cons hl) h4
     ·simp at h
   ·rw [beff_eq] at h
    obtain ⟨v, h1, h2⟩ := bindO h
    rw [guard_le (fun x hx => by rw [← effX]; exact hx) h1]
    obtain ⟨h3, h4⟩ := chkL_some hl h2
    simp only [Option.bind_some]
    rw [h3]
    exact xDraw_le rest hl h4
   ·rw [beff_eq] at h
    obtain ⟨v, h1, h2⟩ := bindO h
    rw [guard_le (fun x hx => by rw [← effX]; exact hx) h1]
    obtain ⟨h3, h4⟩ := chkL_some hl h2
    simp only [Option.bind_some]
    rw [h3]
    exact xDraw_le rest hl h4
   ·rw [bcall_eq] at h
    obtain ⟨r, h1, h2⟩ := bindO h
    rw [guard_le (fun x hx => callX_eq hx) h1]
    simp only [Option.bind_some]
    obtain ⟨r, H'⟩ := r
    cases r with
    | ret v =>
     simp only [outK] at h2 ⊢
     obtain ⟨h3, h4⟩ := chkL_some hl h2
     rw [h3]
     exact xDraw_le rest hl h4
    | pan v => exact chkT_some h2
   ·split at h
    ·rename_i hg
     rw [bnd_eq] at h
     obtain ⟨v, h1, h2⟩ := bindO h
     rw [panX_eq] at h1
     unfold guardK
     simp only [hg, h1, Option.map_some, Option.bind_some]
     exact chkT_some h2
    ·simp at h
   ·simp at h
   ·simp at h

theorem xC_sound {ks : Ks} : ∀ (c : Code) {k : KC α} {t : Ts} {H : Heap} {d : Ds} {x : α}, xC P base own ks call n c k t H d = some x →
  ∃ M e t' H' d', evC P base own ks call (loopF P call M) c { t := tl n t, H, d } = some (e, { t := tl n t', H := H', d := d' }) ∧ k e t' H' d' = some x
 | .skip, k, t, H, d, x, h | .label _, k, t, H, d, x, h => ⟨0, _, _, _, _, rfl, h⟩
 | .exit _, k, t, H, d, x, h | .ret, k, t, H, d, x, h => ⟨0, _, _, _, _, rfl, h⟩
 | .region _ ops draw, k, t, H, d, x, h => by
  simp only [xC] at h
  simp only [evC]
  cases draw with
  | true =>
   simp only [if_true] at h ⊢
   split at h
   ·rename_i hok
    simp only [if_pos hok]
    obtain ⟨e, t', H', d', h1, h2⟩ := kDraw_sound (ls' := []) (es' := []) _ 0 rfl (fun e h => h) (fun l h => by simp at h) (xDraw_le _ .nil h)
    exact ⟨0, e, t', H', d', h1, h2⟩
   ·rename_i hok
    rw [if_neg (by rw [hok]; simp)]
    split at h
    ·rename_i i hi
     obtain ⟨e, t', H', d', h1, h2⟩ := kDraw_sound (ls' := []) (es' := []) _ 0 rfl (fun e h => h) (fun l h => by simp at h) (xDraw_le _ .nil h)
     rw [List.drop_zero] at h1
     match e, h1, h2 with
     | .normal, h1, h2 =>
     simp only [xTwoK] at h2
     obtain ⟨e2, t2, H2, d2, h3, h4⟩ := kOps_sound _ (xOps_le _ h2)
     match e2, h3, h4 with
     | .normal, h3, h4 =>
     obtain ⟨rfl, h5⟩ := sameX_some h4
     exact ⟨0, .normal, t', H', d', by simp only [evTwo, hi, h1, h3, Option.bind_some, if_true], h5⟩
    ·cases h
  | false =>
   simp only [Bool.false_eq_true, if_false] at h ⊢
   obtain ⟨e, t', H', d', h1, h2⟩ := kOps_sound _ (xOps_le _ h)
   exact ⟨0, e, t', H', d', h1, h2⟩
 | .seq a b, k, t, H, d, x, h => by
  simp only [xC] at h
  simp only [evC]
  obtain ⟨m, e, t', H', d', h1, h2⟩ := xC_sound a h
  cases e with
  | normal =>
   simp only [seqK] at h2
   obtain ⟨n2, e2, t2, H2, d2, h3, h4⟩ := xC_sound b h2
   refine ⟨max m n2, e2, t2, H2, d2, ?_, h4⟩
   rw [evC_mono (loopF_mono (Nat.le_max_left m n2)) a h1]
   simp only [Option.bind_some]
   simp only [tl_trim]
   exact evC_mono (loopF_mono (Nat.le_max_right m n2)) b h3
  | _ => exact ⟨m, _, t', H', d', by rw [h1]; rfl, h2⟩
 | .cond c a b, k, t, H, d, x, h => by
  simp only [xC] at h
  simp only [evC]
  rw [cnd_eq, ← envA_eq] at h
  unfold condV at h
  split at h
  ·rename_i hc; simp only [hc]; exact xC_sound a h
  ·rename_i hc; simp only [hc]; exact xC_sound b h
  ·simp at h
 | .block id b, k, t, H, d, x, h => by
  simp only [xC] at h
  simp only [evC]
  obtain ⟨m, e, t', H', d', h1, h2⟩ := xC_sound b h
  refine ⟨m, ?_⟩
  rw [h1]
  simp only [Option.bind_some]
  cases e with
  | exit j =>
   simp only [blockK] at h2
   split at h2
   ·rename_i hj; simp only [if_pos hj]; exact ⟨_, _, _, _, rfl, h2⟩
   ·rename_i hj; simp only [if_neg hj]; exact ⟨_, _, _, _, rfl, h2⟩
  | _ => exact ⟨_, _, _, _, rfl, h2⟩
 | .loop b, k, t, H, d, x, h => by
  simp only [xC] at h
  have key : ∀ (m : Nat) {t : Ts} {H : Heap} {d : Ds}, iter (fun t H d again => xC P base own ks call n b (loopK ks b again k) t H d) m (trimA ks b t) H d = some x →
    ∃ M e t' H' d', loopF P call M base own ks b { t := tl n t, H, d } = some (e, { t := tl n t', H := H', d := d' }) ∧ k e t' H' d' = some x := by
   intro m
   induction m with
   | zero => intro t H d h; simp [iter] at h
   | succ m ih =>
    intro t H d h
    simp only [iter] at h
    obtain ⟨m1, e, t', H', d', h1, h2⟩ := xC_sound b h
    cases e with
    | normal =>
     simp only [loopK] at h2
     obtain ⟨n2, e2, t2, H2, d2, h3, h4⟩ := ih h2
     refine ⟨max m1 n2 + 1, e2, t2, H2, d2, ?_, h4⟩
     simp only [loopF, loopBody, tl_trim]
     rw [evC_mono (loopF_mono (Nat.le_max_left m1 n2)) b h1]
     simp only [Option.bind_some]
     exact loopF_mono (Nat.le_max_right m1 n2) _ _ _ _ _ _ h3
    | _ => exact ⟨m1 + 1, _, _, _, _, by simp only [loopF, loopBody, tl_trim]; rw [h1]; rfl, h2⟩
  obtain ⟨N, hN⟩ := lim_some h
  obtain ⟨M, e, t', H', d', h1, h2⟩ := key N hN
  exact ⟨M, e, t', H', d', h1, h2⟩
 | .scope b, k, t, H, d, x, h => by
  simp only [xC] at h
  simp only [evC]
  exact xC_sound b h
 | .goto _, k, t, H, d, x, h => by simp [xC] at h
 | .rangeFunc .., k, t, H, d, x, h => by simp [xC] at h
end
end Go.Ev
end

section
/- Limits: what comes next is a function of the answer alone; only finitely many calls are asked; loops and calls without fuel. -/
namespace Go.Ev
set_option linter.unusedVariables false
variable {α : Type} {β : Type}

abbrev RR := Ex × Ts × Heap × Ds
def ret0 : KC RR := fun e t H d => some (e, t, H, d)
def appK (k : KC α) (r : RR) : Option α := k r.1 r.2.1 r.2.2.1 r.2.2.2

section
variable {P : Program} {base : Nat} {own : Bool} {call : CallO} {ops : List Oper} {n : Nat} {k : KC α}

theorem sch_bind (b : Bool) (a : Option β) (f : β → Option α) : (sch b a).bind f = sch b (a.bind f) := by
 rw [sch_eq, sch_eq]; cases b <;> rfl
theorem chkE_bind {ms : List Nat} {i : Nat} {op : Op} {g : Operand → V} {v : V} {a : Option β} {f : β → Option α} : ∀ {es : List (Nat × Heap)}, (chkE P ms i op g v es a).bind f = chkE P ms i op g v es (a.bind f)
 | [] => rfl
 | (e, H) :: r => by
  simp only [chkE]
  split
  ·exact chkE_bind
  ·rw [sch_bind, chkE_bind]
theorem chkL_bind {ms : List Nat} {j : Nat} {H : Heap} {a : Option β} {f : β → Option α} : ∀ {ls : List LdX}, (chkL P ms j H ls a).bind f = chkL P ms j H ls (a.bind f)
 | [] => rfl
 | l :: r => by
  simp only [chkL]
  split
  ·exact chkL_bind
  ·rw [sch_bind, chkL_bind]
theorem chkT_bind {ms : List Nat} {p : Nat} {es : List (Nat × Heap)} {i : Nat} {rest : List Oper} {t : Ts} {H : Heap} {a : Option β} {f : β → Option α} :
  (chkT P own ops n ms p es i rest t H a).bind f = chkT P own ops n ms p es i rest t H (a.bind f) := by
 unfold chkT
 split
 ·rfl
 ·rw [sch_bind]
theorem bnd_bind (x : Option V) (f : V → Option β) (g : β → Option α) : (bnd x f).bind g = bnd x fun v => (f v).bind g := by
 rw [bnd_eq, bnd_eq, Option.bind_assoc]
theorem bdef_bind (x : Option (FuncId × List V)) (f : FuncId × List V → Option β) (g : β → Option α) : (bdef x f).bind g = bdef x fun v => (f v).bind g := by
 rw [bdef_eq, bdef_eq, Option.bind_assoc]
theorem beff_bind (x : Option (V × Heap)) (f : V → Heap → Option β) (g : β → Option α) : (beff x f).bind g = beff x fun v H => (f v H).bind g := by
 rw [beff_eq, beff_eq, Option.bind_assoc]
theorem bcall_bind (x : Option (Out × Heap)) (f h : V → Heap → Option β) (g : β → Option α) : (bcall x f h).bind g = bcall x (fun v H => (f v H).bind g) (fun v H => (h v H).bind g) := by
 rw [bcall_eq, bcall_eq, Option.bind_assoc]
 congr 1
 funext r
 cases r.1 <;> rfl

theorem xOps_lin : ∀ (l : List Oper) {t : Ts} {H : Heap} {d : Ds}, xOps P base own call ops n k l t H d = (xOps P base own call ops n ret0 l t H d).bind (appK k)
 | [], t, H, d => rfl
 | o :: rest, t, H, d => by
  simp only [xOps]
  split
  ·exact xOps_lin rest
  ·split
   ·split
    ·rw [bdef_bind]; simp only [xOps_lin rest]
    ·rfl
   ·rw [bnd_bind]; simp only [xOps_lin rest]
   ·rw [bnd_bind]; simp only [xOps_lin rest]
   ·rw [bnd_bind]; simp only [xOps_lin rest]
   ·rw [beff_bind]; simp only [xOps_lin rest]
   ·rw [beff_bind]; simp only [xOps_lin rest]
   ·rw [bcall_bind]; simp only [xOps_lin rest]; rfl
   ·split
    ·rw [bnd_bind]; rfl
    ·rfl
   ·rfl

theorem xDraw_lin {t0 : Ts} {ms : List Nat} : ∀ (l : List Oper) {i : Nat} {ls : List LdX} {es : List (Nat × Heap)} {t : Ts} {H : Heap} {d : Ds},
  xDraw P base own call ops n k t0 ms i l ls es t H d = (xDraw P base own call ops n ret0 t0 ms i l ls es t H d).bind (appK k)
 | [], i, ls, es, t, H, d => rfl
 | o :: rest, i, ls, es, t, H, d => by
  simp only [xDraw]
  split
  ·exact xDraw_lin rest
  ·split
   ·rw [bnd_bind]; simp only [xDraw_lin rest]
   ·rw [bnd_bind]; simp only [xDraw_lin rest]
   ·split
    ·rw [bnd_bind]; simp only [xDraw_lin rest]
    ·split
     ·rw [bnd_bind]; simp only [xDraw_lin rest, chkE_bind]
     ·rfl
   ·rw [beff_bind]; simp only [xDraw_lin rest, chkL_bind]
   ·rw [beff_bind]; simp only [xDraw_lin rest, chkL_bind]
   ·rw [bcall_bind]; simp only [xDraw_lin rest, chkL_bind, chkT_bind]; rfl
   ·split
    ·rw [bnd_bind]; simp only [chkT_bind]; rfl
    ·rfl
   ·rfl
   ·rfl

/-- One round. -/
def stepK (P : Program) (D : Ts → Heap → Ds → Option RR) (ks : Ks) (b : Code) (k : KC α) (t : Ts) (H : Heap) (d : Ds) (again : Ts → Heap → Ds → Option α) : Option α := (D t H d).bind (appK (loopK ks b again k))
theorem step_mono {D : Ts → Heap → Ds → Option RR} {ks : Ks} {b : Code} : ∀ (m : Nat) {t : Ts} {H : Heap} {d : Ds} {x : α}, iter (stepK P D ks b k) m t H d = some x → iter (stepK P D ks b k) (m + 1) t H d = some x
 | 0, t, H, d, x, h => by simp [iter] at h
 | m + 1, t, H, d, x, h => by
  rw [iter] at h ⊢
  unfold stepK at h ⊢
  obtain ⟨r, h1, h2⟩ := bindO h
  rw [h1]
  simp only [Option.bind_some]
  obtain ⟨e, t', H', d'⟩ := r
  cases e with
  | normal => exact step_mono m h2
  | _ => exact h2
theorem step_lin {D : Ts → Heap → Ds → Option RR} {ks : Ks} {b : Code} : ∀ (m : Nat) {t : Ts} {H : Heap} {d : Ds}, iter (stepK P D ks b k) m t H d = (iter (stepK P D ks b ret0) m t H d).bind (appK k)
 | 0, t, H, d => rfl
 | m + 1, t, H, d => by
  rw [iter, iter]
  unfold stepK
  rw [Option.bind_assoc]
  congr 1
  funext r
  obtain ⟨e, t', H', d'⟩ := r
  cases e with
  | normal => exact step_lin m
  | _ => rfl
theorem lim_bind {f : Nat → Option β} (hf : Mono f) (g : β → Option α) : lim (fun n => (f n).bind g) = (lim f).bind g := by
 refine ext_some (fun a h => ?_) (fun a h => ?_)
 ·obtain ⟨n, hn⟩ := lim_some h
  obtain ⟨y, h1, h2⟩ := bindO hn
  rw [lim_of hf h1]; exact h2
 ·obtain ⟨y, h1, h2⟩ := bindO h
  obtain ⟨n, hn⟩ := lim_some h1
  refine lim_of (f := fun n => (f n).bind g) (n := n) (fun m x hx => ?_) (by simp only [hn]; exact h2)
  obtain ⟨z, h3, h4⟩ := bindO hx
  simp only [hf _ _ h3]; exact h4

theorem xC_lin {ks : Ks} : ∀ (c : Code) {α : Type} {k : KC α} {t : Ts} {H : Heap} {d : Ds}, xC P base own ks call n c k t H d = (xC P base own ks call n c ret0 t H d).bind (appK k)
 | .skip, _, k, t, H, d | .label _, _, k, t, H, d | .exit _, _, k, t, H, d | .ret, _, k, t, H, d => rfl
 | .region _ ops draw, _, k, t, H, d => by
  simp only [xC]
  split
  ·split
   ·exact xDraw_lin _
   ·split
    ·rw [xDraw_lin, xDraw_lin (k := xTwoK _ _ _ _ _ _ _ ret0 _ _ _), Option.bind_assoc]
     congr 1
     funext r
     obtain ⟨e, t', H', d'⟩ := r
     cases e <;> simp only [appK, xTwoK, Option.bind_none]
     rw [xOps_lin]
     conv => rhs; rw [xOps_lin]
     rw [Option.bind_assoc]
     congr 1
     funext r
     obtain ⟨e2, t2, H2, d2⟩ := r
     cases e2 <;> simp only [appK, Option.bind_none]
     rw [sameX_eq, sameX_eq]
     unfold sameX0
     split <;> rfl
    ·rfl
  ·exact xOps_lin _
 | .seq a b, _, k, t, H, d => by
  simp only [xC]
  rw [xC_lin a, xC_lin a (k := seqK _ ret0), Option.bind_assoc]
  congr 1
  funext r
  obtain ⟨e, t', H', d'⟩ := r
  cases e with
  | normal => exact xC_lin b
  | _ => rfl
 | .cond c a b, _, k, t, H, d => by
  simp only [xC]
  rw [xC_lin a, xC_lin b, cnd_eq, cnd_eq]
  unfold condV
  split <;> rfl
 | .block id b, _, k, t, H, d => by
  simp only [xC]
  rw [xC_lin b, xC_lin b (k := blockK id ret0), Option.bind_assoc]
  congr 1
  funext r
  obtain ⟨e, t', H', d'⟩ := r
  cases e with
  | exit j => simp only [appK, blockK]; split <;> rfl
  | _ => rfl
 | .loop b, _, k, t, H, d => by
  have e1 : ∀ {γ : Type} (k : KC γ), (fun t H d again => xC P base own ks call n b (loopK ks b again k) t H d) = stepK P (fun t H d => xC P base own ks call n b ret0 t H d) ks b k := by
   intro γ k
   funext t H d again
   exact xC_lin b (k := loopK ks b again k)
  simp only [xC]
  rw [e1 k, e1 ret0]
  unfold iterL
  rw [← lim_bind (fun m x h => step_mono m h)]
  congr 1
  funext m
  exact step_lin m
 | .scope b, _, k, t, H, d => by simp only [xC]; exact xC_lin b
 | .refuse _, _, k, t, H, d => rfl
 | .goto _, _, k, t, H, d => rfl
 | .rangeFunc .., _, k, t, H, d => rfl

theorem loop_step {ks : Ks} (b : Code) {k : KC α} : (fun t H d again => xC P base own ks call n b (loopK ks b again k) t H d) = stepK P (fun t H d => xC P base own ks call n b ret0 t H d) ks b k := by
 funext t H d again
 exact xC_lin b (k := loopK ks b again k)

/-- A loop: one round, and again. -/
theorem loop_eq {ks : Ks} (b : Code) (k : KC α) (t : Ts) (H : Heap) (d : Ds) : iterL (fun t H d again => xC P base own ks call n b (loopK ks b again k) t H d) t H d =
  xC P base own ks call n b (loopK ks b (fun t H d => iterL (fun t H d again => xC P base own ks call n b (loopK ks b again k) t H d) t H d) k) t H d := by
 rw [loop_step b, xC_lin b (k := loopK ks b _ k)]
 refine ext_some (fun x h => ?_) (fun x h => ?_)
 ·obtain ⟨m, hm⟩ := lim_some h
  cases m with
  | zero => simp [iter] at hm
  | succ m =>
   rw [iter] at hm
   unfold stepK at hm
   obtain ⟨r, h1, h2⟩ := bindO hm
   simp only at h1
   rw [h1]
   simp only [Option.bind_some]
   obtain ⟨e, t', H', d'⟩ := r
   cases e with
   | normal => exact lim_of (fun m x h => step_mono m h) h2
   | _ => exact h2
 ·obtain ⟨r, h1, h2⟩ := bindO h
  obtain ⟨e, t', H', d'⟩ := r
  cases e with
  | normal =>
   obtain ⟨m, hm⟩ := lim_some h2
   refine lim_of (n := m + 1) (fun m x h => step_mono m h) ?_
   rw [iter]
   unfold stepK
   simp only [h1, Option.bind_some]
   exact hm
  | _ =>
   refine lim_of (n := 1) (fun m x h => step_mono m h) ?_
   rw [iter]
   unfold stepK
   simp only [h1, Option.bind_some]
   exact h2

theorem Has.nil : Has call [] := fun y h => by simp at h
theorem Has.append {L M : List Fact} : Has call (L ++ M) ↔ Has call L ∧ Has call M := by
 unfold Has
 exact ⟨fun h => ⟨fun y hy => h y (List.mem_append_left _ hy), fun y hy => h y (List.mem_append_right _ hy)⟩, fun ⟨h1, h2⟩ y hy => (List.mem_append.1 hy).elim (h1 y) (h2 y)⟩
theorem Fine.const (x : Option α) : Fine (fun _ => x) call := fun y h => ⟨[], Has.nil, fun _ _ => h⟩
theorem Fine.bind {f : CallO → Option β} {g : CallO → β → Option α} (hf : Fine f call) (hg : ∀ b, Fine (fun c => g c b) call) : Fine (fun c => (f c).bind (g c)) call := by
 intro x h
 obtain ⟨b, h1, h2⟩ := bindO h
 obtain ⟨L, l1, l2⟩ := hf b h1
 obtain ⟨M, m1, m2⟩ := hg b x h2
 refine ⟨L ++ M, Has.append.2 ⟨l1, m1⟩, fun c hc => ?_⟩
 obtain ⟨c1, c2⟩ := Has.append.1 hc
 simp only [l2 c c1, Option.bind_some]
 exact m2 c c2
theorem Fine.one (f : FuncId) (args : List V) (H : Heap) : Fine (fun c => c f args H) call := fun x h => ⟨[(f, args, H, x)], fun y hy => by simp at hy; subst hy; exact h, fun c hc => hc (f, args, H, x) (by simp)⟩
theorem Fine.ite {f g : CallO → Option α} (b : Bool) (hf : Fine f call) (hg : Fine g call) : Fine (fun c => if b = true then f c else g c) call := by
 cases b
 ·simpa using hg
 ·simpa using hf
theorem Fine.congr {f g : CallO → Option α} (h : ∀ c, f c = g c) (hf : Fine g call) : Fine f call := by
 have : f = g := funext h
 rw [this]; exact hf

theorem Fine.bnd {x : CallO → Option V} {f : CallO → V → Option α} (hx : Fine x call) (hf : ∀ v, Fine (fun c => f c v) call) : Fine (fun c => bnd (x c) (f c)) call :=
 Fine.congr (fun c => bnd_eq _ _) (Fine.bind hx hf)
theorem Fine.bdef {x : Option (FuncId × List V)} {f : CallO → FuncId × List V → Option α} (hf : ∀ v, Fine (fun c => f c v) call) : Fine (fun c => bdef x (f c)) call :=
 Fine.congr (fun c => bdef_eq _ _) (Fine.bind (Fine.const x) hf)
theorem Fine.beff {x : Option (V × Heap)} {f : CallO → V → Heap → Option α} (hf : ∀ v H, Fine (fun c => f c v H) call) : Fine (fun c => beff x (f c)) call :=
 Fine.congr (g := fun c => x.bind fun r => f c r.1 r.2) (fun c => beff_eq _ _) (Fine.bind (g := fun c r => f c r.1 r.2) (Fine.const x) (fun r => hf r.1 r.2))
theorem Fine.bcall {x : CallO → Option (Out × Heap)} {f g : CallO → V → Heap → Option α} (hx : Fine x call) (hf : ∀ v H, Fine (fun c => f c v H) call) (hg : ∀ v H, Fine (fun c => g c v H) call) : Fine (fun c => bcall (x c) (f c) (g c)) call := by
 refine Fine.congr (g := fun c => (x c).bind fun r => outK r.1 (fun v => f c v r.2) (fun v => g c v r.2)) (fun c => bcall_eq _ _ _) (Fine.bind (g := fun c r => outK r.1 (fun v => f c v r.2) (fun v => g c v r.2)) hx fun r => ?_)
 obtain ⟨r, H⟩ := r
 cases r with
 | ret v => exact hf v H
 | pan v => exact hg v H
theorem Fine.sch {f : CallO → Option α} (b : Bool) (hf : Fine f call) : Fine (fun c => sch b (f c)) call := by
 cases b
 ·exact Fine.congr (g := fun _ => none) (fun c => by rw [sch_eq]; rfl) (Fine.const none)
 ·exact Fine.congr (fun c => by rw [sch_eq]; rfl) hf
theorem Fine.chkE {ms : List Nat} {i : Nat} {op : Op} {g : Operand → V} {v : V} {f : CallO → Option α} (hf : Fine f call) : ∀ (es : List (Nat × Heap)), Fine (fun c => chkE P ms i op g v es (f c)) call
 | [] => hf
 | (e, H) :: r => by
  simp only [Ev.chkE]
  split
  ·exact Fine.chkE hf r
  ·exact Fine.sch _ (Fine.chkE hf r)
theorem Fine.chkL {ms : List Nat} {j : Nat} {H : Heap} {f : CallO → Option α} (hf : Fine f call) : ∀ (ls : List LdX), Fine (fun c => chkL P ms j H ls (f c)) call
 | [] => hf
 | l :: r => by
  simp only [Ev.chkL]
  split
  ·exact Fine.chkL hf r
  ·exact Fine.sch _ (Fine.chkL hf r)
theorem Fine.chkT {ms : List Nat} {p : Nat} {es : List (Nat × Heap)} {i : Nat} {rest : List Oper} {t : Ts} {H : Heap} {f : CallO → Option α} (hf : Fine f call) : Fine (fun c => chkT P own ops n ms p es i rest t H (f c)) call := by
 simp only [Ev.chkT]
 split
 ·exact hf
 ·exact Fine.sch _ hf
theorem Fine.guaK {g : Operand → V} {o : Oper} {a : CallO → Option β} {b : Option β} (ha : Fine a call) : Fine (fun c => guaK ops g o (a c) b) call := by
 simp only [Ev.guaK]
 split
 ·exact ha
 ·split
  ·exact Fine.const _
  ·split
   ·exact Fine.const _
   ·rename_i d _
    generalize g (.tmp d) = y
    cases y with
    | bool c0 =>
     refine Fine.congr (g := fun c => if (c0 == _) = true then a c else b) (fun c => by rw [gua_eq]; rfl) (Fine.ite _ ha (Fine.const b))
    | tup vs => exact Fine.congr (fun c => by rw [gua_eq]; rfl) (Fine.const b)
    | _ => exact Fine.congr (g := fun _ => none) (fun c => by rw [gua_eq]; rfl) (Fine.const none)
theorem Fine.callX {g : Operand → V} {H : Heap} (op : Op) : Fine (fun c => callX c g H op) call := by
 cases op <;> (try exact Fine.const none)
 rename_i c0
 simp only [Ev.callX]
 split
 ·split
  ·exact Fine.one _ _ _
  ·refine Fine.congr (fun c => by rw [oDyn_eq]; rfl) (Fine.bind (f := fun _ => rFn _ _) (g := fun c q => c q.1 q.2 H) (Fine.const _) (fun q => Fine.one _ _ _))
 ·exact Fine.const none

theorem xOps_fin : ∀ (l : List Oper) {t : Ts} {H : Heap} {d : Ds}, Fine (fun c => xOps P base own c ops n k l t H d) call
 | [], t, H, d => Fine.const _
 | o :: rest, t, H, d => by
  simp only [xOps]
  split
  ·exact xOps_fin rest
  ·split
   ·split
    ·exact Fine.bdef fun r => xOps_fin rest
    ·exact Fine.const _
   ·exact Fine.bnd (Fine.const _) fun v => xOps_fin rest
   ·exact Fine.bnd (Fine.const _) fun v => xOps_fin rest
   ·exact Fine.bnd (Fine.const _) fun v => xOps_fin rest
   ·exact Fine.beff fun v H => xOps_fin rest
   ·exact Fine.beff fun v H => xOps_fin rest
   ·exact Fine.bcall (Fine.guaK (Fine.callX _)) (fun v H => xOps_fin rest) (fun v H => Fine.const _)
   ·split
    ·exact Fine.const _
    ·exact Fine.const _
   ·exact Fine.const _
theorem xDraw_fin {t0 : Ts} {ms : List Nat} : ∀ (l : List Oper) {i : Nat} {ls : List LdX} {es : List (Nat × Heap)} {t : Ts} {H : Heap} {d : Ds}, Fine (fun c => xDraw P base own c ops n k t0 ms i l ls es t H d) call
 | [], i, ls, es, t, H, d => Fine.const _
 | o :: rest, i, ls, es, t, H, d => by
  simp only [xDraw]
  split
  ·exact xDraw_fin rest
  ·split
   ·exact Fine.bnd (Fine.const _) fun v => xDraw_fin rest
   ·exact Fine.bnd (Fine.const _) fun v => xDraw_fin rest
   ·split
    ·exact Fine.bnd (Fine.const _) fun v => xDraw_fin rest
    ·split
     ·exact Fine.bnd (Fine.const _) fun v => Fine.chkE (xDraw_fin rest) _
     ·exact Fine.const _
   ·exact Fine.beff fun v H => Fine.chkL (xDraw_fin rest) _
   ·exact Fine.beff fun v H => Fine.chkL (xDraw_fin rest) _
   ·exact Fine.bcall (Fine.guaK (Fine.callX _)) (fun v H => Fine.chkL (xDraw_fin rest) _) (fun v H => Fine.const _)
   ·split
    ·exact Fine.const _
    ·exact Fine.const _
   ·exact Fine.const _
   ·exact Fine.const _

theorem Fine.app {f : CallO → Option RR} {k : CallO → KC α} (hf : Fine f call) (hk : ∀ e t H d, Fine (fun c => k c e t H d) call) : Fine (fun c => (f c).bind (appK (k c))) call :=
 Fine.bind (g := fun c r => appK (k c) r) hf (fun r => hk _ _ _ _)

theorem xC_fin {ks : Ks} : ∀ (c : Code) {k : CallO → KC α} {t : Ts} {H : Heap} {d : Ds}, (∀ e t H d, Fine (fun c => k c e t H d) call) → Fine (fun cl => xC P base own ks cl n c (k cl) t H d) call
 | .skip, k, t, H, d, hk | .label _, k, t, H, d, hk | .exit _, k, t, H, d, hk | .ret, k, t, H, d, hk => hk _ _ _ _
 | .region _ ops draw, k, t, H, d, hk => by
  simp only [xC]
  split
  ·split
   ·exact Fine.congr (fun cl => xDraw_lin _) (Fine.app (xDraw_fin _) hk)
   ·split
    ·refine Fine.congr (fun cl => xDraw_lin _) (Fine.app (xDraw_fin _) fun e t' H' d' => ?_)
     cases e <;> simp only [xTwoK] <;> try exact Fine.const _
     refine Fine.congr (fun cl => xOps_lin _) (Fine.app (xOps_fin _) fun e2 t2 H2 d2 => ?_)
     cases e2 <;> try exact Fine.const _
     simp only [sameX_eq, sameX0]
     split
     ·exact hk _ _ _ _
     ·exact Fine.const _
    ·exact Fine.const _
  ·exact Fine.congr (fun cl => xOps_lin _) (Fine.app (xOps_fin _) hk)
 | .seq a b, k, t, H, d, hk => by
  simp only [xC]
  refine xC_fin a fun e t H d => ?_
  cases e with
  | normal => exact xC_fin b hk
  | _ => exact hk _ _ _ _
 | .cond c a b, k, t, H, d, hk => by
  simp only [xC]
  generalize envA n t c = y
  have : ∀ (f g : CallO → Option α), Fine f call → Fine g call → Fine (fun cl => cnd y (f cl) (g cl)) call := by
   intro f g hf hg
   match y with
   | .bool true => exact Fine.congr (fun c => by rw [cnd_eq]; rfl) hf
   | .bool false => exact Fine.congr (fun c => by rw [cnd_eq]; rfl) hg
   | .junk | .int _ _ | .str _ | .nilptr | .ptr _ _ _ | .fptr _ | .nils | .vs _ | .rs _ _ _ _ _ | .fn _ _ | .nilfn | .niface | .iface _ _ | .agg _ | .tup _ | .nilmap | .mapr _ =>
    exact Fine.congr (g := fun _ => none) (fun c => by rw [cnd_eq]; rfl) (Fine.const none)
  exact this _ _ (xC_fin a hk) (xC_fin b hk)
 | .block id b, k, t, H, d, hk => by
  simp only [xC]
  refine xC_fin b fun e t H d => ?_
  cases e with
  | exit j => simp only [blockK]; split <;> exact hk _ _ _ _
  | _ => exact hk _ _ _ _
 | .loop b, k, t, H, d, hk => by
  simp only [xC]
  intro x h
  have key : ∀ (m : Nat) {t : Ts} {H : Heap} {d : Ds}, Fine (fun cl => iter (fun t H d again => xC P base own ks cl n b (loopK ks b again (k cl)) t H d) m t H d) call := by
   intro m
   induction m with
   | zero => intro t H d; exact Fine.const _
   | succ m ih =>
    intro t H d
    refine Fine.congr (fun cl => rfl) (xC_fin b (k := fun cl => loopK ks b (fun t H d => iter (fun t H d again => xC P base own ks cl n b (loopK ks b again (k cl)) t H d) m t H d) (k cl)) fun e t H d => ?_)
    cases e with
    | normal => exact ih
    | _ => exact hk _ _ _ _
  obtain ⟨m, hm⟩ := lim_some h
  obtain ⟨L, l1, l2⟩ := key m x hm
  refine ⟨L, l1, fun cl hcl => lim_of (n := m) (fun m x h => ?_) (l2 cl hcl)⟩
  rw [loop_step b] at h ⊢
  exact step_mono m h
 | .scope b, k, t, H, d, hk => by simp only [xC]; exact xC_fin b hk
 | .goto _, k, t, H, d, hk => Fine.const _
 | .refuse _, k, t, H, d, hk => Fine.const _
 | .rangeFunc .., k, t, H, d, hk => Fine.const _
end
end Go.Ev
end

section
/- A function's end, and all calls without fuel. -/
namespace Go.Ev
set_option linter.unusedVariables false
variable {T : Tabs}
variable {α : Type} {β : Type}

noncomputable def rt : Bool → Nat → V → Heap → Option (Out × Heap) := shut retO
theorem rt_eq : rt = retO := shut_eq _
noncomputable def pn : Bool → Nat → V → Heap → Option (Out × Heap) := shut panO
theorem pn_eq : pn = panO := shut_eq _
def bdn0 (x : Option (Bool × Heap)) (f : Heap → Option α) : Option α := x.bind fun r => f r.2
noncomputable def bdn {α : Type} : Option (Bool × Heap) → (Heap → Option α) → Option α := shut bdn0
theorem bdn_eq (x : Option (Bool × Heap)) (f : Heap → Option α) : bdn x f = x.bind fun r => f r.2 := by unfold bdn; rw [shut_eq]; rfl
def bdp0 (x : Option (Bool × Heap)) (f g : Heap → Option α) : Option α := x.bind fun r => match r.1 with
 | true => f r.2
 | false => g r.2
noncomputable def bdp {α : Type} : Option (Bool × Heap) → (Heap → Option α) → (Heap → Option α) → Option α := shut bdp0
theorem bdp_eq (x : Option (Bool × Heap)) (f g : Heap → Option α) : bdp x f g = bdp0 x f g := by unfold bdp; rw [shut_eq]

noncomputable def xRes (P : Program) (n : Nat) (t : Ts) (H : Heap) : List ResultVar → (List V → Option α) → Option α
 | [], k => k []
 | .tmp i :: rs, k => xRes P n t H rs fun vs => k (envA n t (.tmp i) :: vs)
 | .cell a ty :: rs, k => match tAgg P ty with
  | some ag => match tSize P ty with
   | some m => bnd (oLoad ag m H (envA n t (.tmp a))) fun v => xRes P n t H rs fun vs => k (v :: vs)
   | none => none
  | none => none

noncomputable def xLeave (P : Program) (dfr : DefO) (keep : Bool) (base n : Nat) (rs : List ResultVar) (t : Ts) : Ds → Option V → Heap → Option (Out × Heap)
 | [], m, H => match m with
  | none => xRes P n t H rs fun vs => rt keep base (oneOr vs) H
  | some v => pn keep base v H
 | d :: ds, m, H => match m with
  | none => bdn (dfr d.1 d.2 none H) fun H' => xLeave P dfr keep base n rs t ds none H'
  | some v => bdp (dfr d.1 d.2 (some v) H) (fun H' => xLeave P dfr keep base n rs t ds none H') (fun H' => xLeave P dfr keep base n rs t ds (some v) H')

noncomputable def xEnd (P : Program) (dfr : DefO) (keep : Bool) (base n : Nat) (rs : List ResultVar) : KC (Out × Heap) := fun e t H d =>
 match e with
 | .normal | .ret => xLeave P dfr keep base n rs t d none H
 | .pan v => xLeave P dfr keep base n rs t d (some v) H
 | .exit _ => none

noncomputable def xFun (P : Program) (own : Bool) (ks : Ks) (keep : Bool) (call : CallO) (dfr : DefO) (c : Code) (rs : List ResultVar) (n : Nat) (args : List V) (H : Heap) : Option (Out × Heap) :=
 xC P H.length own ks call n c (xEnd P dfr keep H.length n rs) (argA 0 args) H []

section
variable {P : Program}

theorem xRes_some {n : Nat} {t : Ts} {H : Heap} : ∀ {rs : List ResultVar} {k : List V → Option α} {x : α}, xRes P n t H rs k = some x → kResL P (tl n t) H rs k = some x
 | [], k, x, h => h
 | .tmp i :: rs, k, x, h => by
  simp only [xRes] at h
  simp only [kResL]
  have := xRes_some h
  rw [← envA_eq] at this
  exact this
 | .cell a ty :: rs, k, x, h => by
  simp only [xRes] at h
  simp only [kResL]
  split at h
  ·rename_i ag ha
   split at h
   ·rename_i m hm
    rw [bnd_eq, ← envA_eq, oLoad_eq] at h
    obtain ⟨v, h1, h2⟩ := bindO h
    simp only [resOne, ha, hm, Option.bind_some]
    rw [show (tl n t).getD a .junk = env (tl n t) (.tmp a) from rfl, h1]
    exact xRes_some h2
   ·simp at h
  ·simp at h

theorem xLeave_some {dfr : DefO} {keep : Bool} {base n : Nat} {rs : List ResultVar} {t : Ts} : ∀ {d : Ds} {m : Option V} {H : Heap} {x : Out × Heap}, xLeave P dfr keep base n rs t d m H = some x → kLeave P dfr keep base n rs t d m H = some x
 | [], none, H, x, h => by
  simp only [xLeave, rt_eq] at h
  exact xRes_some h
 | [], some v, H, x, h => by
  simp only [xLeave, pn_eq] at h
  exact h
 | d :: ds, none, H, x, h => by
  simp only [xLeave, bdn_eq] at h
  obtain ⟨r, h1, h2⟩ := bindO h
  simp only [kLeave, h1, Option.bind_some]
  simp only [ite_self]
  exact xLeave_some h2
 | d :: ds, some v, H, x, h => by
  simp only [xLeave, bdp_eq] at h
  unfold bdp0 at h
  obtain ⟨⟨b, H'⟩, h1, h2⟩ := bindO h
  simp only [kLeave, h1, Option.bind_some]
  cases b with
  | true => exact xLeave_some h2
  | false => exact xLeave_some h2

def nrmIf (b : Bool) (args : List V) : List V := match b with
 | true => args.map V.nrm
 | false => args
theorem nrmIf_len (b : Bool) (args : List V) : (nrmIf b args).length = args.length := by cases b <;> simp [nrmIf]
theorem nrmIf_rel {S : Ctx} {b : Bool} {args : List V} {us : Array Value} (h : RelA S args us) : RelA S (nrmIf b args) us := by
 cases b with
 | false => exact h
 | true =>
  obtain ⟨h1, h2⟩ := h
  refine ⟨by simpa [nrmIf] using h1, fun j v u hv hu => ?_⟩
  simp only [nrmIf, List.getElem?_map, Option.map_eq_some_iff] at hv
  obtain ⟨w, hw, rfl⟩ := hv
  exact rel_nrm (h2 j w u hw hu)
/-- What needs no memory. -/
def plainV : V → Bool
 | .bool _ | .int _ _ | .str _ => true
 | _ => false
noncomputable def sameP (H : Heap) (r : Out × Heap) : Option (Out × Heap) := match r with
 | (.ret v, []) => if plainV v = true then some (.ret v, H) else none
 | _ => none
theorem sameP_some {H H' : Heap} {r : Out × Heap} {o : Out} (h : sameP H r = some (o, H')) : ∃ v, r = (.ret v, []) ∧ plainV v = true ∧ o = .ret v ∧ H' = H := by
 unfold sameP at h
 split at h
 ·split at h
  ·rename_i hp
   simp only [Option.some.injEq, Prod.mk.injEq] at h
   exact ⟨_, rfl, hp, h.1.symm, h.2.symm⟩
  ·cases h
 ·cases h
/-- Rows are lent. -/
noncomputable def lendB (call : CallO) (f : FuncId) (args : List V) (H : Heap) : Option (Out × Heap) :=
 (mapO (frz H 0 depth) args).bind fun a => if cleanL a = true then (call f a []).bind (sameP H) else none
noncomputable def xBody0 (P : Program) (h : Hint) (call : CallO) (dfr : DefO) (f : FuncId) (args : List V) (H : Heap) : Option (Out × Heap) :=
 match h.orc f with
 | some g => g call args H
 | none => match h.intr f with
 | some g => g args H
 | none => match P.funcs[f]? with
  | none => none
  | some fn => match fn.body with
   | none => none
   | some c => if args.length ≤ fn.ntmps then xFun P (h.own f) (h.ks f) (h.keep f) call dfr c fn.results.toList fn.ntmps (nrmIf (h.nrm f) args) H else none
noncomputable def xBody (P : Program) (h : Hint) (call : CallO) (dfr : DefO) (f : FuncId) (args : List V) (H : Heap) : Option (Out × Heap) :=
 match h.lend f && !cleanL args with
 | true => lendB call f args H
 | false => xBody0 P h call dfr f args H

theorem lendB_fine {call : CallO} {f : FuncId} {args : List V} {H : Heap} : Fine (fun c => lendB c f args H) call := by
 unfold lendB
 refine Fine.bind (f := fun _ => mapO (frz H 0 depth) args) (Fine.const _) fun a => ?_
 split
 ·exact Fine.bind (f := fun c => c f a []) (Fine.one _ _ _) fun r => Fine.const _
 ·exact Fine.const _
theorem xBody0_fine {h : Hint} {call : CallO} {dfr : DefO} {f : FuncId} {args : List V} {H : Heap} : Fine (fun c => xBody0 P h c dfr f args H) call := by
 unfold xBody0
 split
 ·rename_i g hg
  exact h.fine f g hg args H call
 ·split
  ·exact Fine.const _
  ·split
   ·exact Fine.const _
   ·split
    ·exact Fine.const _
    ·split
     ·exact xC_fin _ fun e t H d => Fine.const _
     ·exact Fine.const _
theorem xBody_fine {h : Hint} {call : CallO} {dfr : DefO} {f : FuncId} {args : List V} {H : Heap} : Fine (fun c => xBody P h c dfr f args H) call := by
 unfold xBody
 split
 ·exact lendB_fine
 ·exact xBody0_fine

noncomputable def EVn (P : Program) (h : Hint) (dfr : DefO) : Nat → CallO
 | 0 => fun _ _ _ => none
 | n + 1 => xBody P h (EVn P h dfr n) dfr
noncomputable def EV (P : Program) (h : Hint) (dfr : DefO) : CallO := fun f args H => lim fun n => EVn P h dfr n f args H

theorem EVn_mono {h : Hint} {dfr : DefO} : ∀ (n : Nat) {f : FuncId} {args : List V} {H : Heap} {x : Out × Heap}, EVn P h dfr n f args H = some x → EVn P h dfr (n + 1) f args H = some x
 | 0, f, args, H, x, hx => by simp [EVn] at hx
 | n + 1, f, args, H, x, hx => by
  rw [EVn] at hx ⊢
  obtain ⟨L, l1, l2⟩ := xBody_fine (call := EVn P h dfr n) x hx
  exact l2 _ fun y hy => EVn_mono n (l1 y hy)
theorem EV_mono {h : Hint} {dfr : DefO} {f : FuncId} {args : List V} {H : Heap} : Mono fun n => EVn P h dfr n f args H := fun n x hx => EVn_mono n hx
theorem EV_has {h : Hint} {dfr : DefO} : ∀ {L : List Fact}, Has (EV P h dfr) L → ∃ n, Has (EVn P h dfr n) L
 | [], _ => ⟨0, Has.nil⟩
 | y :: L, hL => by
  obtain ⟨n, hn⟩ := EV_has (L := L) fun z hz => hL z (List.mem_cons_of_mem _ hz)
  obtain ⟨m, hm⟩ := lim_some (hL y (List.mem_cons_self ..))
  refine ⟨max n m, fun z hz => ?_⟩
  rcases List.mem_cons.1 hz with rfl | hz
  ·exact EV_mono.le (Nat.le_max_right n m) hm
  ·exact EV_mono.le (Nat.le_max_left n m) (hn z hz)

/-- A call is what its body says. -/
theorem EV_body {h : Hint} {dfr : DefO} {f : FuncId} {args : List V} {H : Heap} : EV P h dfr f args H = xBody P h (EV P h dfr) dfr f args H := by
 refine ext_some (fun x hx => ?_) (fun x hx => ?_)
 ·obtain ⟨n, hn⟩ := lim_some hx
  cases n with
  | zero => simp [EVn] at hn
  | succ n =>
   rw [EVn] at hn
   obtain ⟨L, l1, l2⟩ := xBody_fine (call := EVn P h dfr n) x hn
   exact l2 _ fun y hy => lim_of EV_mono (l1 y hy)
 ·obtain ⟨L, l1, l2⟩ := xBody_fine (call := EV P h dfr) x hx
  obtain ⟨n, hn⟩ := EV_has l1
  refine lim_of EV_mono (n := n + 1) ?_
  simp only [EVn]
  exact l2 _ hn
theorem EV_body0 {h : Hint} {dfr : DefO} {f : FuncId} {args : List V} {H : Heap} (hl : (h.lend f && !cleanL args) = false) : EV P h dfr f args H = xBody0 P h (EV P h dfr) dfr f args H := by
 rw [EV_body]
 unfold xBody
 rw [hl]
theorem EV_fun {h : Hint} {dfr : DefO} {f : FuncId} {fn : Func} {c : Code} (ho : h.orc f = none) (hi : h.intr f = none) (hf : P.funcs[f]? = some fn) (hb : fn.body = some c) {args : List V} {H : Heap} (hl : args.length ≤ fn.ntmps) (hn : (h.lend f && !cleanL args) = false) :
  EV P h dfr f args H = xFun P (h.own f) (h.ks f) (h.keep f) (EV P h dfr) dfr c fn.results.toList fn.ntmps (nrmIf (h.nrm f) args) H := by
 rw [EV_body0 hn]
 unfold xBody0
 simp only [ho, hi, hf, hb, if_pos hl]
theorem EV_at {h : Hint} {dfr : DefO} {f : FuncId} {fn : Func} (hf : P.funcs[f]? = some fn) (hi : ((h.orc f).isNone && (h.intr f).isNone && !h.nrm f && !h.lend f) = true) (hb : fn.body.isSome = true) {args : List V} {H : Heap} (hl : Nat.ble args.length fn.ntmps = true) :
  EV P h dfr f args H = xFun P (h.own f) (h.ks f) (h.keep f) (EV P h dfr) dfr (bodyOf fn) fn.results.toList fn.ntmps args H := by
 obtain ⟨c, hc⟩ := Option.isSome_iff_exists.1 hb
 rw [Bool.and_eq_true, Bool.and_eq_true, Bool.and_eq_true] at hi
 rw [EV_fun (by simpa using hi.1.1.1) (by simpa using hi.1.1.2) hf hc (Nat.le_of_ble_eq_true hl) (by rw [show h.lend f = false by simpa using hi.2]; rfl), show h.nrm f = false by simpa using hi.1.2]
 unfold bodyOf
 rw [hc]
 rfl
theorem EV_atN {h : Hint} {dfr : DefO} {f : FuncId} {fn : Func} (hf : P.funcs[f]? = some fn) (hi : ((h.orc f).isNone && (h.intr f).isNone && h.nrm f && !h.lend f) = true) (hb : fn.body.isSome = true) {args : List V} {H : Heap} (hl : Nat.ble args.length fn.ntmps = true) :
  EV P h dfr f args H = xFun P (h.own f) (h.ks f) (h.keep f) (EV P h dfr) dfr (bodyOf fn) fn.results.toList fn.ntmps (args.map V.nrm) H := by
 obtain ⟨c, hc⟩ := Option.isSome_iff_exists.1 hb
 rw [Bool.and_eq_true, Bool.and_eq_true, Bool.and_eq_true] at hi
 rw [EV_fun (by simpa using hi.1.1.1) (by simpa using hi.1.1.2) hf hc (Nat.le_of_ble_eq_true hl) (by rw [show h.lend f = false by simpa using hi.2]; rfl), hi.1.2]
 unfold bodyOf
 rw [hc]
 rfl
theorem EV_intr {h : Hint} {dfr : DefO} {f : FuncId} {g : List V → Heap → Option (Out × Heap)} (hi : h.intr f = some g) (ho : h.orc f = none := by rfl) (hl : h.lend f = false := by rfl) {args : List V} {H : Heap} : EV P h dfr f args H = g args H := by
 rw [EV_body0 (by rw [hl]; rfl)]
 unfold xBody0
 simp only [ho, hi]
theorem EV_orc {h : Hint} {dfr : DefO} {f : FuncId} {g : CallO → List V → Heap → Option (Out × Heap)} (ho : h.orc f = some g) (hl : h.lend f = false := by rfl) {args : List V} {H : Heap} : EV P h dfr f args H = g (EV P h dfr) args H := by
 rw [EV_body0 (by rw [hl]; rfl)]
 unfold xBody0
 simp only [ho]

theorem Rel.plain {S S' : Ctx} {v : V} {u : Value} (h : Rel S v u) (hp : plainV v = true) : Rel S' v u := by
 cases h <;> first | exact .bool _ | exact .int _ _ | exact .str _ | simp [plainV] at hp
/-- What is lent lies behind the call as it lay. -/
theorem lend_mod {call : CallO} (hcall : CallOK T P call) (f : FuncId) : Mod T P f (lendB call f) := by
 intro args H r H' hg S us hH hS hA
 subst hH
 unfold lendB at hg
 obtain ⟨a, ha, hg⟩ := bindO hg
 split at hg
 ·rename_i hc
  obtain ⟨q, hq, hg⟩ := bindO hg
  obtain ⟨v, rfl, hp, rfl, rfl⟩ := sameP_some hg
  have hb : 0 ≤ S.H.length := Nat.zero_le _
  have hn : (S.trunc 0).H = [] := by simp [Ctx.trunc, htrunc]
  have hB : Bnd 0 S.H := fun i b hi _ => by omega
  have hA' : RelA (S.trunc 0) a us := by
   obtain ⟨m1, m2⟩ := mapO_get ha
   refine ⟨by rw [m1]; exact hA.1, fun j y u hy hu => ?_⟩
   obtain ⟨x, hx, hf⟩ := m2 j y hy
   exact frz_rel hb hS depth hf (hA.2 j x u hx hu) (by rw [clean_ref (cleanL_iff.1 hc y (List.mem_of_getElem? hy))]; exact Nat.le_refl _)
  obtain ⟨h1, h2⟩ := hcall f a [] _ _ hq (S.trunc 0) us hn (trunc_sim hb hS hB) hA'
  refine ⟨h1, h2.mono fun e w' he => ?_⟩
  obtain ⟨S', hto, hr⟩ := he
  have hw := hto.w
  subst hw
  match e, hr with
  | .returned u, hr =>
   have hgr : Grew S.w S'.w := ⟨hto.ext.size, fun c hc => by
    by_cases hz : S.Z c
    ·exact (hto.ext.zed c hz).2
    ·exact (hto.ext.keep c hc ⟨fun ⟨i, hi, _⟩ => by have := (trunc_live hb hi).2; omega, hz⟩).1, hto.ext.os, hto.ext.tape, hto.ext.output⟩
   exact ⟨S.at S'.w, ⟨rfl, rfl, rfl, at_ext hS hgr, at_sim hS hgr, Bd.refl _ _⟩, Rel.plain hr hp⟩
 ·cases hg

theorem xFun_mod {h : Hint} {call : CallO} {dfr : DefO} (hcall : CallOK T P call) (hdfr : DefOK T P dfr) (hmix : P.follows .mixedOrders = true) (hn : NameOK P) (hi : ∀ f g, h.intr f = some g → Mod T P f g) (ho : ∀ f g, h.orc f = some g → ∀ call, CallOK T P call → Mod T P f (g call)) (f : FuncId) : Mod T P f (xBody P h call dfr f) := by
 intro args H r H' hg
 cases hle : h.lend f && !cleanL args with
 | true =>
  unfold xBody at hg
  rw [hle] at hg
  exact lend_mod hcall f args H r H' hg
 | false =>
 unfold xBody at hg
 rw [hle] at hg
 clear hle
 simp only at hg
 cases hor : h.orc f with
 | some g =>
  unfold xBody0 at hg
  simp only [hor] at hg
  exact ho f g hor call hcall args H r H' hg
 | none =>
 cases hin : h.intr f with
 | some g =>
  unfold xBody0 at hg
  simp only [hor, hin] at hg
  exact hi f g hin args H r H' hg
 | none =>
  unfold xBody0 at hg
  simp only [hor, hin] at hg
  cases hf : P.funcs[f]? with
  | none => simp [hf] at hg
  | some fn =>
   simp only [hf] at hg
   cases hb : fn.body with
   | none => simp [hb] at hg
   | some c =>
    simp only [hb] at hg
    split at hg
    ·rename_i hle
     unfold xFun at hg
     obtain ⟨M, e, t', H1, d', h1, h2⟩ := xC_sound c hg
     have hle' : (nrmIf (h.nrm f) args).length ≤ fn.ntmps := by rw [nrmIf_len]; exact hle
     rw [tl_args hle'] at h1
     have key := call_sound1 (h := h) hcall (loopF_ok hcall hmix M) hdfr hmix (f := f) (fun g hh => by rw [hin] at hh; simp at hh) (fun fn' hf' hb' => hn f fn' hf' hb')
     intro S uargs hH hS hA
     refine key (nrmIf (h.nrm f) args) H r H' ?_ S uargs hH hS (nrmIf_rel hA)
     unfold callBody
     simp only [hin, hf, hb]
     rw [if_pos hle', h1]
     simp only [Option.bind_some]
     cases e with
     | normal => exact kLeave_some (xLeave_some h2)
     | ret => exact kLeave_some (xLeave_some h2)
     | pan v => exact kLeave_some (xLeave_some h2)
     | exit i => simp [xEnd] at h2
    ·simp at hg

theorem EVn_ok {h : Hint} {dfr : DefO} (hdfr : DefOK T P dfr) (hmix : P.follows .mixedOrders = true) (hn : NameOK P) (hi : ∀ f g, h.intr f = some g → Mod T P f g) (ho : ∀ f g, h.orc f = some g → ∀ call, CallOK T P call → Mod T P f (g call)) : ∀ n, CallOK T P (EVn P h dfr n)
 | 0 => fun f args H r H' hh => by simp [EVn] at hh
 | n + 1 => fun f => xFun_mod (EVn_ok hdfr hmix hn hi ho n) hdfr hmix hn hi ho f
/-- What is said of a call is so. -/
theorem EV_ok {h : Hint} {dfr : DefO} (hdfr : DefOK T P dfr) (hmix : P.follows .mixedOrders = true) (hn : NameOK P) (hi : ∀ f g, h.intr f = some g → Mod T P f g) (ho : ∀ f g, h.orc f = some g → ∀ call, CallOK T P call → Mod T P f (g call)) : CallOK T P (EV P h dfr) := by
 intro f args H r H' hh
 obtain ⟨n, hx⟩ := lim_some hh
 exact EVn_ok hdfr hmix hn hi ho n f args H r H' hx

/-! Deferred calls that ask no others. -/
def noLoop : LoopO := fun _ _ _ _ _ => none
theorem noLoop_ok : LoopOK T P noLoop := fun base own ks b st e st' h => by simp [noLoop] at h
noncomputable def dfr0 (P : Program) (h : Hint) : DefO := defBody P h noCall noLoop
theorem dfr0_ok {h : Hint} (hmix : P.follows .mixedOrders = true) (hn : NameOK P) : DefOK T P (dfr0 P h) := def_sound noCall_ok noLoop_ok hmix hn
end
end Go.Ev
end

section
/- Deferred functions, made of shut parts. -/
namespace Go.Ev
set_option linter.unusedVariables false
variable {α : Type}

abbrev KS (α : Type) := Ex → Ts → Heap → Option V → Bool → Option α
section
variable (P : Program) (base : Nat) (own : Bool) (ops : List Oper) (n : Nat) (k : KS α)
end
/-- What comes next, where nothing is deferred. -/
def kd (k : KS α) (m : Option V) (b : Bool) : KC α := fun e t H d =>
 match d with
 | [] => k e t H m b
 | _ => none
section
variable {P : Program} {base : Nat} {own : Bool} {call : CallO} {loop : LoopO} {ops : List Oper} {n : Nat} {k : KS α}
end

end Go.Ev
end

section
/- Functions of Go's library that are taken by what they say. -/
namespace Go.Ev

/-- What reads, and changes nothing. -/
def iRd (g : List V → Heap → Option V) : List V → Heap → Option (Out × Heap) := fun args H => (g args H).map fun v => (.ret v, H)
/-- A number in decimal digits. -/
def gItoa : List V → Heap → Option V
 | [.int .i64 n], _ => if -9223372036854775808 ≤ n ∧ n ≤ 9223372036854775807 then some (.str (Lib.itoa n)) else none
 | _, _ => none
def strsV : List V → Option (List (List UInt8))
 | [] => some []
 | .str s :: r => (strsV r).map fun l => s :: l
 | _ => none
/-- Texts with another one between. -/
def gJoin : List V → Heap → Option V
 | [x, .str sep], H => (slLen x).bind fun _ => (slCells 1 H x).bind fun cs => (strsV cs).bind fun l =>
  if l.length ≤ 140737488355328 ∧ (Lib.join l sep).length ≤ 140737488355328 then some (.str (Lib.join l sep)) else none
 | _, _ => none
/-- How many zeros a word ends with. -/
def tzTab : List Int := [0,1,56,2,57,49,28,3,61,58,42,50,38,29,17,4,62,47,59,36,45,43,51,22,53,39,33,30,24,18,12,5,63,55,48,27,60,41,37,16,46,35,44,21,52,32,23,11,54,26,40,15,34,20,31,10,25,14,19,9,13,8,7,6]
def tzIdx (x : Int) : Int := (IntKind.u64.wrap (IntKind.u64.wrap ((BitVec.ofInt 64 x &&& BitVec.ofInt 64 (IntKind.u64.wrap (0 - x))).toNat) * 285870213051353865)).fdiv 288230376151711744
def gTZ : List V → Heap → Option V
 | [.int .u64 x], _ => if 0 ≤ x ∧ x ≤ 18446744073709551615 then some (.int .i64 (if x = 0 then 64 else tzTab.getD (tzIdx x).toNat 0)) else none
 | _, _ => none

def intrAt : List (Nat × (List V → Heap → Option (Out × Heap))) → Nat → Option (List V → Heap → Option (Out × Heap))
 | [], _ => none
 | (i, g) :: r, f => match Nat.beq i f with
  | true => some g
  | false => intrAt r f
end Go.Ev
end

