/- EvH: a part of the proof that each law of this seat answers true at every input. No condition. -/
import Derived.Test.YtjnkigaiogjfcaaDoorEvF
import Derived.Test.YtjnkigaiogjfcaaDoorEvGb
import Derived.DataReads
import Derived.ChangeArms
set_option linter.unusedVariables false
set_option linter.unusedSimpArgs false
section
/- What the shut operations come to where their operands are known: for simp. -/
namespace Go.Ev
set_option linter.unusedVariables false
variable {α : Type} {β : Type}

/-! Control. -/
@[congr] theorem bnd_congr {x x' : Option V} {f : V → Option α} (h : x = x') : bnd x f = bnd x' f := by rw [h]
@[congr] theorem beff_congr {x x' : Option (V × Heap)} {f : V → Heap → Option α} (h : x = x') : beff x f = beff x' f := by rw [h]
@[congr] theorem bcall_congr {x x' : Option (Out × Heap)} {f g : V → Heap → Option α} (h : x = x') : bcall x f g = bcall x' f g := by rw [h]
@[congr] theorem bdef_congr {x x' : Option (FuncId × List V)} {f : FuncId × List V → Option α} (h : x = x') : bdef x f = bdef x' f := by rw [h]
@[congr] theorem cnd_congr {v v' : V} {a b : Option α} (h : v = v') : cnd v a b = cnd v' a b := by rw [h]
@[congr] theorem gua_congr {v v' : V} {w : Bool} {a b : Option β} (h : v = v') : gua v w a b = gua v' w a b := by rw [h]
@[congr] theorem sch_congr {b b' : Bool} {a : Option α} (h : b = b') : sch b a = sch b' a := by rw [h]
@[simp] theorem Qah (v : V) (f : V → Option α) : bnd (some v) f = f v := by rw [bnd_eq]; rfl
@[simp] theorem Qag (v : V) (H : Heap) (f : V → Heap → Option α) : beff (some (v, H)) f = f v H := by rw [beff_eq]; rfl
@[simp] theorem Qab (v : V) (H : Heap) (f g : V → Heap → Option α) : bcall (some (.ret v, H)) f g = f v H := by rw [bcall_eq]; rfl
@[simp] theorem Qaa (v : V) (H : Heap) (f g : V → Heap → Option α) : bcall (some (.pan v, H)) f g = g v H := by rw [bcall_eq]; rfl
@[simp] theorem Qac (r : FuncId × List V) (f : FuncId × List V → Option α) : bdef (some r) f = f r := by rw [bdef_eq]; rfl
@[simp] theorem Qad (b : Bool) (H : Heap) (f : Heap → Option α) : bdn (some (b, H)) f = f H := by rw [bdn_eq]; rfl
@[simp] theorem Qaf (H : Heap) (f g : Heap → Option α) : bdp (some (true, H)) f g = f H := by rw [bdp_eq]; rfl
@[simp] theorem Qae (H : Heap) (f g : Heap → Option α) : bdp (some (false, H)) f g = g H := by rw [bdp_eq]; rfl
@[simp] theorem Qbd (a b : Option α) : cnd (.bool true) a b = a := by rw [cnd_eq]; rfl
@[simp] theorem Qbc (a b : Option α) : cnd (.bool false) a b = b := by rw [cnd_eq]; rfl
@[simp] theorem Qci (w : Bool) (a b : Option β) : gua (.bool w) w a b = a := by rw [gua_eq]; simp [guardV]
@[simp] theorem Qcg (a b : Option β) : gua (.bool true) false a b = b := by rw [gua_eq]; simp [guardV]
@[simp] theorem Qcf (a b : Option β) : gua (.bool false) true a b = b := by rw [gua_eq]; simp [guardV]
@[simp] theorem Qch (vs : List V) (w : Bool) (a b : Option β) : gua (.tup vs) w a b = b := by rw [gua_eq]; rfl
@[simp] theorem Qhd (a : Option α) : sch true a = a := by rw [sch_eq]; rfl

/-! Values. -/
mutual
theorem V.beq_self : ∀ v : V, V.beq v v = true
 | .junk | .nilptr | .nils | .nilfn | .niface | .nilmap => rfl
 | .bool _ | .str _ | .ptr _ _ _ | .rs _ _ _ _ _ | .mapr _ => by simp [V.beq]
 | .int k n => by cases k <;> simp [V.beq]
 | .fptr a | .vs a | .agg a | .tup a => by rw [V.beq]; exact beqL_self a
 | .fn _ a => by rw [V.beq, beqL_self a]; simp
 | .iface _ a => by rw [V.beq, V.beq_self a]; simp
theorem beqL_self : ∀ l : List V, beqL l l = true
 | [] => rfl
 | v :: l => by rw [beqL, V.beq_self v, beqL_self l]; rfl
end
@[simp] theorem Qgm (v : V) : sam (some v) v = true := by rw [sam_eq]; exact V.beq_self v

@[simp] theorem Qfm (x : V) : oMove x = some x := by rw [oMove_eq]; rfl
@[simp] theorem Qew (t : TypeId) (x : V) : oIface t x = some (.iface t x) := by rw [oIface_eq]; rfl
@[simp] theorem Qfl (f : FuncId) (l : List V) : oMkFn f l = some (.fn f l) := by rw [oMkFn_eq]; rfl
@[simp] theorem Qfr (a b : V) : oPick (.bool true) a b = some a := by rw [oPick_eq]; rfl
@[simp] theorem Qfq (a b : V) : oPick (.bool false) a b = some b := by rw [oPick_eq]; rfl
@[simp] theorem Qfo (i v o : Nat) : oNil (.ptr i v o) = some (.ptr i v o) := by rw [oNil_eq]; rfl
@[simp] theorem Qfn (cs : List V) : oNil (.fptr cs) = some (.fptr cs) := by rw [oNil_eq]; rfl
@[simp] theorem Qet (i v o f : Nat) : oFieldPtr (.ptr i v o) f = some (.ptr i v (o + f)) := by rw [oFieldPtr_eq]; rfl
theorem oFieldPtr_fptr (cs : List V) (f : Nat) (h : f ≤ cs.length) : oFieldPtr (.fptr cs) f = some (.fptr (cs.drop f)) := by rw [oFieldPtr_eq]; simp [fieldPtr, h]
@[simp] theorem Qfp (t : TypeId) (v : V) : oPanic (.iface t v) = some (.iface t v) := by rw [oPanic_eq]; rfl
@[simp] theorem Qev (f : FuncId) (cap args : List V) : oFn (.fn f cap) args = some (f, args ++ cap) := by rw [oFn_eq]; rfl
@[simp] theorem Qep (call : CallO) (f : FuncId) (cap args : List V) (H : Heap) : oDyn call (.fn f cap) args H = call f (args ++ cap) H := by rw [oDyn_eq]; rfl
@[simp] theorem Qfu (b : Bool) : oUn .not (.bool b) = some (.bool !b) := by rw [oUn_eq]; rfl
@[simp] theorem Qft (k : IntKind) (n : Int) : oUn .neg (.int k n) = some (.int k (k.wrap (0 - n))) := by rw [oUn_eq]; rfl
@[simp] theorem Qey (k l : IntKind) (n : Int) : oIntTo k (.int l n) = some (.int k (k.wrap n)) := by rw [oIntTo_eq]; rfl
@[simp] theorem Qfs (s : List UInt8) : oToStr (.str s) = some (.str s) := by rw [oToStr_eq]; rfl
@[simp] theorem Qfd (s : List UInt8) : oLenStr (.str s) = some (.int .i64 s.length) := by rw [oLenStr_eq]; rfl
@[simp] theorem Qfa : oLenSl .nils = some (.int .i64 0) := by rw [oLenSl_eq]; rfl
@[simp] theorem Qfc (l : List V) : oLenSl (.vs l) = some (.int .i64 l.length) := by rw [oLenSl_eq]; rfl
@[simp] theorem Qfb (i v s o n : Nat) : oLenSl (.rs i v s o n) = some (.int .i64 n) := by rw [oLenSl_eq]; rfl
@[simp] theorem Qez (n : Nat) : oLenA n = some (.int .i64 n) := by rw [oLenA_eq]; rfl
@[simp] theorem Qeq (a : V) (l : List V) : oExtract (.tup (a :: l)) 0 = some a := by rw [oExtract_eq]; rfl
@[simp] theorem Qer (a b : V) (l : List V) : oExtract (.tup (a :: b :: l)) 1 = some b := by rw [oExtract_eq]; rfl
@[simp] theorem Qes (a b c : V) (l : List V) : oExtract (.tup (a :: b :: c :: l)) 2 = some c := by rw [oExtract_eq]; rfl
@[simp] theorem Qdu (t : TypeId) (v : V) : oAssert t (.iface t v) = some v := by rw [oAssert_eq]; simp [rAssert]

/-! Comparisons and sums. -/
section
variable (k : IntKind) (e : Nat) (x y : Int)
theorem oBin_int (op : BinOp) (h1 : op ≠ .shl) (h2 : op ≠ .shr) : oBin op e (.int k x) (.int k y) = vBinInt op k x y := by
 rw [oBin_eq]; unfold rBin rBin0 vBinE
 cases op <;> simp_all [vBinInt] <;> split <;> simp_all
@[simp] theorem Qdx : oBin .add e (.int k x) (.int k y) = some (.int k (k.wrap (x + y))) := by rw [oBin_int _ _ _ _ _ (by simp) (by simp)]; rfl
@[simp] theorem Qel : oBin .sub e (.int k x) (.int k y) = some (.int k (k.wrap (x - y))) := by rw [oBin_int _ _ _ _ _ (by simp) (by simp)]; rfl
@[simp] theorem Qeg : oBin .mul e (.int k x) (.int k y) = some (.int k (k.wrap (x * y))) := by rw [oBin_int _ _ _ _ _ (by simp) (by simp)]; rfl
@[simp] theorem Qeb : oBin .eql e (.int k x) (.int k y) = some (.bool (decide (x = y))) := by rw [oBin_int _ _ _ _ _ (by simp) (by simp)]; simp [vBinInt, BEq.beq]
@[simp] theorem Qeh : oBin .neq e (.int k x) (.int k y) = some (.bool (!decide (x = y))) := by rw [oBin_int _ _ _ _ _ (by simp) (by simp)]; simp [vBinInt, bne, BEq.beq]
@[simp] theorem Qef : oBin .lss e (.int k x) (.int k y) = some (.bool (decide (x < y))) := by rw [oBin_int _ _ _ _ _ (by simp) (by simp)]; rfl
@[simp] theorem Qee : oBin .leq e (.int k x) (.int k y) = some (.bool (decide (x ≤ y))) := by rw [oBin_int _ _ _ _ _ (by simp) (by simp)]; rfl
@[simp] theorem Qed : oBin .gtr e (.int k x) (.int k y) = some (.bool (decide (y < x))) := by rw [oBin_int _ _ _ _ _ (by simp) (by simp)]; rfl
@[simp] theorem Qec : oBin .geq e (.int k x) (.int k y) = some (.bool (decide (y ≤ x))) := by rw [oBin_int _ _ _ _ _ (by simp) (by simp)]; rfl
theorem oBin_quo (h : y ≠ 0) : oBin .quo e (.int k x) (.int k y) = some (.int k (k.wrap (x.tdiv y))) := by rw [oBin_int _ _ _ _ _ (by simp) (by simp)]; simp [vBinInt, h]
theorem oBin_rem (h : y ≠ 0) : oBin .rem e (.int k x) (.int k y) = some (.int k (x.tmod y)) := by rw [oBin_int _ _ _ _ _ (by simp) (by simp)]; simp [vBinInt, h]
@[simp] theorem Qei : oBin .or e (.int k x) (.int k y) = some (.int k (k.wrap ((BitVec.ofInt k.bits x ||| BitVec.ofInt k.bits y).toNat))) := by rw [oBin_int _ _ _ _ _ (by simp) (by simp)]; rfl
@[simp] theorem Qdy : oBin .and e (.int k x) (.int k y) = some (.int k (k.wrap ((BitVec.ofInt k.bits x &&& BitVec.ofInt k.bits y).toNat))) := by rw [oBin_int _ _ _ _ _ (by simp) (by simp)]; rfl
end
section
variable (e : Nat) (s t : List UInt8)
theorem oBin_str (op : BinOp) (h1 : op ≠ .shl) (h2 : op ≠ .shr) : oBin op e (.str s) (.str t) = vBinStr op s t := by
 rw [oBin_eq]; unfold rBin rBin0 vBinE
 cases op <;> simp_all [vBinStr] <;> split <;> simp_all
theorem oBin_cat (h : s.length + t.length ≤ 9223372036854775807) : oBin .add e (.str s) (.str t) = some (.str (s ++ t)) := by rw [oBin_str _ _ _ _ (by simp) (by simp)]; simp [vBinStr, h]
@[simp] theorem Qej : oBin .eql e (.str s) (.str t) = some (.bool (decide (s = t))) := by rw [oBin_str _ _ _ _ (by simp) (by simp)]; simp only [vBinStr]; congr 2; by_cases h : s = t <;> simp [h]
@[simp] theorem Qek : oBin .neq e (.str s) (.str t) = some (.bool (!decide (s = t))) := by rw [oBin_str _ _ _ _ (by simp) (by simp)]; simp only [vBinStr]; congr 2; by_cases h : s = t <;> simp [h]
end
@[simp] theorem Qdz (a b : Bool) : oBin .eql 0 (.bool a) (.bool b) = some (.bool (a == b)) := by rw [oBin_eq]; rfl
@[simp] theorem Qea (a b : Bool) : oBin .neq 0 (.bool a) (.bool b) = some (.bool !(a == b)) := by rw [oBin_eq]; rfl
@[simp] theorem Qdv (t : TypeId) (v : V) (c : Bool) : oBinI .neq c (.iface t v) .niface = some (.bool true) := by rw [oBinI_eq]; rfl
@[simp] theorem Qdw : oBinI .neq true .niface .niface = some (.bool false) := by rw [oBinI_eq]; rfl

/-! Memory. -/
theorem hget_other {H : Heap} {i j : Nat} {x : Blk} (h : j ≠ i) : hget (hset H i x) j = hget H j := hget_hset_ne x h
theorem hset_hset {i : Nat} {x y : Blk} : ∀ {H : Heap}, hset (hset H i x) i y = hset H i y
 | [] => rfl
 | b :: H => by
  simp only [hset]
  split
  ·simp only [hset]; split <;> simp_all
  ·rename_i h; simp only [hset, hset_length]; rw [if_neg h, hset_hset]
theorem hset_self {i : Nat} {x : Blk} : ∀ {H : Heap}, hget H i = some x → hset H i x = H
 | [], h => by simp [hget] at h
 | b :: H, h => by
  simp only [hget] at h
  simp only [hset]
  split
  ·rename_i hi; rw [if_pos hi] at h; injection h with h; rw [h]
  ·rename_i hi; rw [if_neg hi] at h; rw [hset_self h]
@[simp] theorem Qcm (b : Blk) (H : Heap) : hget (b :: H) H.length = some b := by simp [hget]
theorem hset_below {b x : Blk} {H : Heap} {i : Nat} (h : i ≠ H.length) : hset (b :: H) i x = b :: hset H i x := by simp [hset, h]
@[simp] theorem Qcq (b x : Blk) (H : Heap) : hset (b :: H) H.length x = x :: H := by simp [hset]
@[simp] theorem Qcx (H : Heap) : htrunc H H.length = H := by simp [htrunc]
theorem htrunc_eq {H : Heap} {n : Nat} (h : H.length = n) : htrunc H n = H := by subst h; simp
theorem htrunc_cons {b : Blk} {H : Heap} {n : Nat} (h : n ≤ H.length) : htrunc (b :: H) n = htrunc H n := by
 unfold htrunc
 rw [List.length_cons, show H.length + 1 - n = (H.length - n) + 1 by omega, List.drop_succ_cons]

def loadB (ag : Bool) (n ver off : Nat) : Option Blk → Option V
 | some (.var cs) => if ver = 0 then takeCells ag n (cs.drop off) else none
 | some (.row v _ _ cs) => if ver = v then takeCells ag n (cs.drop off) else none
 | _ => none
theorem oLoad_ptr (ag : Bool) (n : Nat) (H : Heap) (i ver off : Nat) : oLoad ag n H (.ptr i ver off) = loadB ag n ver off (hget H i) := by
 rw [oLoad_eq]
 unfold loadV cellsFrom loadB
 cases hg : hget H i with
 | none => simp [hg]
 | some b =>
  cases b with
  | var cs => simp only [hg]; split <;> rfl
  | row v sz ag' cs => simp only [hg]; split <;> rfl
  | dead => simp [hg]
  | map es => simp [hg]
@[simp] theorem Qcz (ag : Bool) (n off : Nat) (cs : List V) : loadB ag n 0 off (some (.var cs)) = takeCells ag n (cs.drop off) := by simp [loadB]
@[simp] theorem Qcy (ag ag' : Bool) (n off ver sz : Nat) (cs : List V) : loadB ag n ver off (some (.row ver sz ag' cs)) = takeCells ag n (cs.drop off) := by simp [loadB]
@[simp] theorem Qfh (ag : Bool) (n : Nat) (H : Heap) (cs : List V) : oLoad ag n H (.fptr cs) = takeCells ag n cs := by rw [oLoad_eq]; rfl
@[simp] theorem Qhj (v : V) (cs : List V) : takeCells false 1 (v :: cs) = some v := by simp [takeCells]
theorem takeCells_ag {n : Nat} {cs : List V} (h : n ≤ cs.length) : takeCells true n cs = some (.agg (cs.take n)) := by simp [takeCells, h]

def storeB (base n i ver off : Nat) (x : V) (H : Heap) : Option Blk → Option (V × Heap)
 | some (.var cs) => if x.cells.length = n ∧ scalL x.cells = true ∧ (base ≤ i ∨ x.maxRef ≤ i + 1) ∧ ver = 0 ∧ off + n ≤ cs.length then some (.tup [], hset H i (.var (splice cs off x.cells))) else none
 | some (.row v sz ag cs) => if x.cells.length = n ∧ scalL x.cells = true ∧ (base ≤ i ∨ x.maxRef ≤ i + 1) ∧ ver = v ∧ off + n ≤ cs.length then some (.tup [], hset H i (.row v sz ag (splice cs off x.cells))) else none
 | _ => none
theorem oStore_ptr (base n : Nat) (H : Heap) (i ver off : Nat) (x : V) : oStore base n H (.ptr i ver off) x = storeB base n i ver off x H (hget H i) := by
 rw [oStore_eq]
 unfold rStore storeV storeB fits
 by_cases h1 : x.cells.length = n ∧ scalL x.cells = true
 ·rw [if_pos h1]
  by_cases h2 : base ≤ i ∨ x.maxRef ≤ i + 1
  ·have hb : (decide (base ≤ i) || decide (x.maxRef ≤ i + 1)) = true := by simpa using h2
   simp only [hb, if_true]
   cases hg : hget H i with
   | none => rfl
   | some b =>
    cases b with
    | var cs =>
     simp only
     by_cases h3 : ver = 0 ∧ off + n ≤ cs.length
     ·rw [if_pos h3, if_pos ⟨h1.1, h1.2, h2, h3.1, h3.2⟩]; rfl
     ·rw [if_neg h3, if_neg (fun hh => h3 ⟨hh.2.2.2.1, hh.2.2.2.2⟩)]; rfl
    | row v sz ag cs =>
     simp only
     by_cases h3 : ver = v ∧ off + n ≤ cs.length
     ·rw [if_pos h3, if_pos ⟨h1.1, h1.2, h2, h3.1, h3.2⟩]; rfl
     ·rw [if_neg h3, if_neg (fun hh => h3 ⟨hh.2.2.2.1, hh.2.2.2.2⟩)]; rfl
    | dead => rfl
    | map es => rfl
  ·have hb : ¬ (decide (base ≤ i) || decide (x.maxRef ≤ i + 1)) = true := by simpa using h2
   simp only [hb, if_false]
   cases hget H i with
   | none => rfl
   | some b => cases b <;> simp [h2]
 ·rw [if_neg h1]
  cases hget H i with
  | none => rfl
  | some b => cases b <;> simp <;> intro a b <;> exact absurd ⟨a, b⟩ h1
theorem oVar_ok {H : Heap} {x : V} (h : scalL x.cells = true) : oVar H x = some (.ptr H.length 0 0, .var x.cells :: H) := by rw [oVar_eq]; simp [rVar, newVar, h]

/-! A call's end. -/
theorem rt_frz {base : Nat} {v v' : V} {H : Heap} (h : frz H base depth v = some v') (hm : v'.maxRef ≤ base) : rt false base v H = some (.ret v', htrunc H base) := by
 rw [rt_eq]; simp [retO, retK, h, hm]
theorem pn_frz {base : Nat} {v v' : V} {H : Heap} (h : frz H base depth v = some v') (hm : v'.maxRef ≤ base) : pn false base v H = some (.pan v', htrunc H base) := by
 rw [pn_eq]; simp [panO, retK, h, hm]
@[simp] theorem Qgc (base : Nat) (b : Bool) (H : Heap) : rt false base (.bool b) H = some (.ret (.bool b), htrunc H base) := rt_frz rfl (Nat.zero_le _)
@[simp] theorem Qge (base : Nat) (k : IntKind) (n : Int) (H : Heap) : rt false base (.int k n) H = some (.ret (.int k n), htrunc H base) := rt_frz rfl (Nat.zero_le _)
@[simp] theorem Qgi (base : Nat) (s : List UInt8) (H : Heap) : rt false base (.str s) H = some (.ret (.str s), htrunc H base) := rt_frz rfl (Nat.zero_le _)
@[simp] theorem Qgk (base : Nat) (H : Heap) : rt false base (.tup []) H = some (.ret (.tup []), htrunc H base) := rt_frz rfl (Nat.zero_le _)
@[simp] theorem Qfw (base : Nat) (t : TypeId) (k : IntKind) (n : Int) (H : Heap) : pn false base (.iface t (.int k n)) H = some (.pan (.iface t (.int k n)), htrunc H base) := pn_frz rfl (Nat.zero_le _)
@[simp] theorem Qgf (base : Nat) (k : IntKind) (n : Int) (b : Bool) (H : Heap) : rt false base (.tup [.int k n, .bool b]) H = some (.ret (.tup [.int k n, .bool b]), htrunc H base) := rt_frz rfl (Nat.zero_le _)

/-! Strings. -/
@[simp] theorem Qex (c : UInt8) (s : List UInt8) (k : IntKind) : oIndexStr (.str (c :: s)) (.int k 0) = some (.int .u8 c.toNat) := by rw [oIndexStr_eq]; rfl
end Go.Ev
end

section
/- More for simp: stores, blocks, rows. -/
namespace Go.Ev
set_option linter.unusedVariables false

@[simp] theorem Qao (b : Bool) : (V.bool b).cells = [.bool b] := rfl
@[simp] theorem Qar (k : IntKind) (n : Int) : (V.int k n).cells = [.int k n] := rfl
@[simp] theorem Qba (s : List UInt8) : (V.str s).cells = [.str s] := rfl
@[simp] theorem Qaw : V.nilptr.cells = [.nilptr] := rfl
@[simp] theorem Qay (a b c : Nat) : (V.ptr a b c).cells = [.ptr a b c] := rfl
@[simp] theorem Qax : V.nils.cells = [.nils] := rfl
@[simp] theorem Qbb (l : List V) : (V.vs l).cells = [.vs l] := rfl
@[simp] theorem Qaz (a b c d e : Nat) : (V.rs a b c d e).cells = [.rs a b c d e] := rfl
@[simp] theorem Qap (f : FuncId) (l : List V) : (V.fn f l).cells = [.fn f l] := rfl
@[simp] theorem Qau : V.nilfn.cells = [.nilfn] := rfl
@[simp] theorem Qat : V.niface.cells = [.niface] := rfl
@[simp] theorem Qaq (t : TypeId) (v : V) : (V.iface t v).cells = [.iface t v] := rfl
@[simp] theorem Qav : V.nilmap.cells = [.nilmap] := rfl
@[simp] theorem Qas (a : Nat) : (V.mapr a).cells = [.mapr a] := rfl
@[simp] theorem Qan (l : List V) : (V.agg l).cells = l := rfl
@[simp] theorem Qgo : scalL [] = true := rfl
@[simp] theorem Qgn (v : V) (l : List V) : scalL (v :: l) = (v.scal && scalL l) := rfl
@[simp] theorem Qgp (b : Bool) : (V.bool b).scal = true := rfl
@[simp] theorem Qgs (k : IntKind) (n : Int) : (V.int k n).scal = true := rfl
@[simp] theorem Qhb (s : List UInt8) : (V.str s).scal = true := rfl
@[simp] theorem Qgx : V.nilptr.scal = true := rfl
@[simp] theorem Qgz (a b c : Nat) : (V.ptr a b c).scal = true := rfl
@[simp] theorem Qgy : V.nils.scal = true := rfl
@[simp] theorem Qhc (l : List V) : (V.vs l).scal = true := rfl
@[simp] theorem Qha (a b c d e : Nat) : (V.rs a b c d e).scal = true := rfl
@[simp] theorem Qgq (f : FuncId) (l : List V) : (V.fn f l).scal = true := rfl
@[simp] theorem Qgv : V.nilfn.scal = true := rfl
@[simp] theorem Qgu : V.niface.scal = true := rfl
@[simp] theorem Qgr (t : TypeId) (v : V) : (V.iface t v).scal = true := rfl
@[simp] theorem Qgw : V.nilmap.scal = true := rfl
@[simp] theorem Qgt (a : Nat) : (V.mapr a).scal = true := rfl
@[simp] theorem Qdf (b : Bool) : (V.bool b).maxRef = 0 := rfl
@[simp] theorem Qdi (k : IntKind) (n : Int) : (V.int k n).maxRef = 0 := rfl
@[simp] theorem Qdr (s : List UInt8) : (V.str s).maxRef = 0 := rfl
@[simp] theorem Qdn : V.nilptr.maxRef = 0 := rfl
@[simp] theorem Qdo : V.nils.maxRef = 0 := rfl
@[simp] theorem Qdt (l : List V) : (V.vs l).maxRef = 0 := rfl
@[simp] theorem Qdl : V.nilfn.maxRef = 0 := rfl
@[simp] theorem Qdk : V.niface.maxRef = 0 := rfl
@[simp] theorem Qdm : V.nilmap.maxRef = 0 := rfl
@[simp] theorem Qdp (a b c : Nat) : (V.ptr a b c).maxRef = a + 1 := rfl
@[simp] theorem Qdq (a b c d e : Nat) : (V.rs a b c d e).maxRef = a + 1 := rfl
@[simp] theorem Qdj (a : Nat) : (V.mapr a).maxRef = a + 1 := rfl
@[simp] theorem Qde (l : List V) : (V.agg l).maxRef = maxRefL l := rfl
@[simp] theorem Qds (l : List V) : (V.tup l).maxRef = maxRefL l := rfl
@[simp] theorem Qdg (f : FuncId) (l : List V) : (V.fn f l).maxRef = maxRefL l := rfl
@[simp] theorem Qdh (t : TypeId) (v : V) : (V.iface t v).maxRef = v.maxRef := rfl
@[simp] theorem Qdd : maxRefL [] = 0 := rfl
@[simp] theorem Qdc (v : V) (l : List V) : maxRefL (v :: l) = max v.maxRef (maxRefL l) := rfl

@[simp] theorem Qhh (base n i ver off : Nat) (x : V) (H : Heap) (cs : List V) : storeB base n i ver off x H (some (.var cs)) =
  if x.cells.length = n ∧ scalL x.cells = true ∧ (base ≤ i ∨ x.maxRef ≤ i + 1) ∧ ver = 0 ∧ off + n ≤ cs.length then some (.tup [], hset H i (.var (splice cs off x.cells))) else none := rfl
@[simp] theorem Qhg (base n i ver off : Nat) (x : V) (H : Heap) (v sz : Nat) (ag : Bool) (cs : List V) : storeB base n i ver off x H (some (.row v sz ag cs)) =
  if x.cells.length = n ∧ scalL x.cells = true ∧ (base ≤ i ∨ x.maxRef ≤ i + 1) ∧ ver = v ∧ off + n ≤ cs.length then some (.tup [], hset H i (.row v sz ag (splice cs off x.cells))) else none := rfl
@[simp] theorem Qhf (cs xs : List V) : splice cs 0 xs = xs ++ cs.drop xs.length := by simp [splice]
@[simp] theorem Qhe (c : V) (cs xs : List V) (off : Nat) : splice (c :: cs) (off + 1) xs = c :: splice cs off xs := by
 simp [splice, Nat.add_right_comm]
@[simp] theorem Qcs (H : Heap) (i : Nat) (x : Blk) : htrunc (hset H i x) H.length = hset H i x := htrunc_eq (by simp)
@[simp] theorem Qam (n : Nat) : ((no_index (OfNat.ofNat n) : Nat) : Int) = (OfNat.ofNat n : Int) := rfl
theorem lt_s {a b : Nat} (h : a < b) : (a < b + 1) = True := by simp; omega
theorem le_s {a b : Nat} (h : a ≤ b) : (a ≤ b + 1) = True := by simp; omega
@[simp] theorem Qcr {b : Blk} {H : Heap} {n : Nat} (h : n ≤ H.length) : htrunc (b :: H) n = htrunc H n := htrunc_cons h
@[simp] theorem Qck {b : Blk} {H : Heap} {i : Nat} (h : i < H.length) : hget (b :: H) i = hget H i := hget_old b h
@[simp] theorem Qco {b x : Blk} {H : Heap} {i : Nat} (h : i < H.length) : hset (b :: H) i x = b :: hset H i x := hset_below (by omega)
@[simp] theorem Qcl {H : Heap} {i : Nat} {x : Blk} (h : i < H.length) : hget (hset H i x) i = some x := hget_hset_eq x h
@[simp] theorem Qcj {b : Blk} {H : Heap} {i : Nat} (h : i = H.length) : hget (b :: H) i = some b := by subst h; simp
@[simp] theorem Qcn {b x : Blk} {H : Heap} {i : Nat} (h : i = H.length) : hset (b :: H) i x = x :: H := by subst h; simp
@[simp] theorem Qcp {H : Heap} {i : Nat} {x y : Blk} : hset (hset H i x) i y = hset H i y := hset_hset
@[simp] theorem Qfv {H : Heap} {x : V} (h : scalL x.cells = true) : oVar H x = some (.ptr H.length 0 0, .var x.cells :: H) := oVar_ok h
@[simp] theorem Qhi {n : Nat} {cs : List V} (h : n ≤ cs.length) : takeCells true n cs = some (.agg (cs.take n)) := takeCells_ag h

/-! Numbers. -/
theorem wrap_i64 {x : Int} (h1 : -9223372036854775808 ≤ x) (h2 : x ≤ 9223372036854775807) : IntKind.i64.wrap x = x := by
 simp only [IntKind.wrap, IntKind.bits, IntKind.signed, Nat.reduceSub, Int.reducePow, Bool.true_and]
 split <;> rename_i h <;> simp at h <;> omega
theorem wrap_u8 {x : Int} (h1 : 0 ≤ x) (h2 : x ≤ 255) : IntKind.u8.wrap x = x := by
 simp only [IntKind.wrap, IntKind.bits, IntKind.signed, Bool.false_and, Bool.false_eq_true, if_false, Int.reducePow]
 omega
@[simp] theorem Qfj (k : IntKind) (x y : Int) : oMax [.int k x, .int k y] = some (.int k (if x < y then y else x)) := by rw [oMax_eq]; rfl
@[simp] theorem Qfk (k : IntKind) (x y : Int) : oMin [.int k x, .int k y] = some (.int k (if y < x then y else x)) := by rw [oMin_eq]; rfl

/-! Structs that are built. -/
@[simp] theorem Qen (z : List V) (pl : List (Nat × Nat)) : oBuild z pl [] = some (.agg z) := by rw [oBuild_eq]; rfl
noncomputable def buildB (z : List V) (pl : List (Nat × Nat)) (v : V) (ps : List (Nat × V)) : Option (Nat × Nat) → Option V
 | none => none
 | some (off, size) => if v.cells.length = size ∧ scalL v.cells = true ∧ off + size ≤ z.length then oBuild (splice z off v.cells) pl ps else none
@[simp] theorem Qem (z : List V) (pl : List (Nat × Nat)) (i : Nat) (v : V) (ps : List (Nat × V)) : oBuild z pl ((i, v) :: ps) = buildB z pl v ps pl[i]? := by
 rw [oBuild_eq]
 unfold rBuild buildB
 simp only [fillV]
 cases pl[i]? with
 | none => rfl
 | some r =>
  obtain ⟨off, size⟩ := r
  simp only
  split
  ·rw [oBuild_eq]; rfl
  ·rfl
@[simp] theorem Qai (z : List V) (pl : List (Nat × Nat)) (v : V) (ps : List (Nat × V)) (off size : Nat) : buildB z pl v ps (some (off, size)) =
 if v.cells.length = size ∧ scalL v.cells = true ∧ off + size ≤ z.length then oBuild (splice z off v.cells) pl ps else none := rfl

/-! Fields. -/
@[simp] theorem Qeu (off : Nat) (ag : Bool) (n : Nat) (cs : List V) : oField off ag n (.agg cs) = if off + n ≤ cs.length then takeCells ag n (cs.drop off) else none := by rw [oField_eq]; rfl

/-! Slices. -/
theorem flat_one (x : V) : flat [x] = x.cells := by simp [flat]
theorem oAppend_nil1 {base sz by_ : Nat} {ag : Bool} {x : V} {H : Heap} (hx : x.cells.length = sz) (hs : scalL x.cells = true) (hz : 0 < sz) (hr : roomOk 1 by_ = true) :
  oAppend base sz by_ ag .nils (.vs [x]) H = some (.rs H.length 0 sz 0 1, .row 0 sz ag x.cells :: H) := by
 rw [oAppend_eq]
 simp [rAppend, slLen, slCells, allLen, hx, flat_one, appendV, hs, hz, hr]
theorem oAppend_row1 {base sz by_ : Nat} {ag : Bool} {x : V} {H : Heap} {i ver len : Nat} {cs : List V} (hg : hget H i = some (.row ver sz ag cs)) (hl : cs.length = len * sz) (hx : x.cells.length = sz) (hs : scalL x.cells = true) (hz : 0 < sz)
  (hf : base ≤ i ∨ maxRefL x.cells ≤ i + 1) (hr : roomOk (len + 1) by_ = true) :
  oAppend base sz by_ ag (.rs i ver sz 0 len) (.vs [x]) H = some (.rs i (ver + 1) sz 0 (len + 1), hset H i (.row (ver + 1) sz ag (cs ++ x.cells))) := by
 have hf' : fits base i (maxRefL x.cells) = true := by simpa [fits] using hf
 have h1 : ¬ (len + 1) * sz ≤ cs.length := by
  rw [hl, Nat.add_mul]; omega
 rw [oAppend_eq]
 simp [rAppend, slLen, slCells, allLen, hx, flat_one, appendV, hs, hz, hr, hg, hf', hl]
 rw [if_neg (by rw [Nat.add_mul]; omega)]
 simp [List.take_of_length_le (Nat.le_of_eq hl)]
theorem oLit_1 {sz : Nat} {z x : V} (hx : x.cells.length = sz) (hs : scalL x.cells = true) (hn : x.nrm = x) (hc : x.clean = true) : oLit sz 1 z [(0, x)] = some (.vs [x]) := by
 rw [oLit_eq]
 simp [rLit, okParts, hx, hs, hn, hc, setAll]
@[simp] theorem Qff (z : V) (k : IntKind) (n : Int) : oLit 1 1 z [(0, .int k n)] = some (.vs [.int k n]) := oLit_1 rfl rfl rfl rfl
@[simp] theorem Qfg (z : V) (s : List UInt8) : oLit 1 1 z [(0, .str s)] = some (.vs [.str s]) := oLit_1 rfl rfl rfl rfl
theorem oRow_1 {sz : Nat} {ag : Bool} {z : List V} {x : V} {H : Heap} (hz : z.length = sz) (hx : x.cells.length = sz) (hs : scalL x.cells = true) (h0 : 0 < sz) : oRow 1 sz ag z H [(0, x)] = some (.rs H.length 0 sz 0 1, .row 0 sz ag x.cells :: H) := by
 rw [oRow_eq]
 have : splice z 0 x.cells = x.cells := by simp [splice, hx, ← hz]
 simp [rRow, fillV, hx, hs, hz, rowOf, h0, splice]
 simp [← hz]; exact hs
theorem oIndexPtr_rs {i ver sz off n : Nat} {k : IntKind} {j : Nat} (h : j < n) : oIndexPtr sz (.rs i ver sz off n) (.int k j) = some (.ptr i ver ((off + j) * sz)) := by
 rw [oIndexPtr_eq]; simp [rIndexPtr, asNat, indexPtr, h]
theorem oIndexPtr_vs {sz : Nat} {xs : List V} {k : IntKind} {j : Nat} {y : V} (h : xs[j]? = some y) (hy : y.cells.length = sz) : oIndexPtr sz (.vs xs) (.int k j) = some (.fptr y.cells) := by
 rw [oIndexPtr_eq]; simp [rIndexPtr, asNat, indexPtr, h, hy]

/-! Maps. -/
@[simp] theorem Qfi (H : Heap) : oMap H = some (.mapr H.length, .map [] :: H) := by rw [oMap_eq]; rfl
@[simp] theorem Qfy (k : IntKind) (n : Int) : rKey 0 (.int k n) = true := rfl
@[simp] theorem Qfz (s : List UInt8) : rKey 1 (.str s) = true := rfl
@[simp] theorem Qfx (b : Bool) : rKey 2 (.bool b) = true := rfl
@[simp] theorem Qbr (k : V) (i : Nat) : findV k [] i = some none := rfl
@[simp] theorem Qbq (kk : IntKind) (a b : Int) (v : V) (es : List (V × V)) (i : Nat) : findV (.int kk a) ((.int kk b, v) :: es) i = if a = b then some (some (i, v)) else findV (.int kk a) es (i + 1) := by
 simp only [findV, sameKey, if_true]
 by_cases h : a = b
 ·subst h; simp
 ·have : (a == b) = false := by simpa using h
  simp [h, this]
@[simp] theorem Qbs (a b : List UInt8) (v : V) (es : List (V × V)) (i : Nat) : findV (.str a) ((.str b, v) :: es) i = if a = b then some (some (i, v)) else findV (.str a) es (i + 1) := by
 simp only [findV, sameKey]
 by_cases h : a = b
 ·subst h; simp
 ·have : (a == b) = false := by simpa using h
  simp [h, this]
def updB (base kk i : Nat) (k x : V) (H : Heap) : Option Blk → Option (V × Heap)
 | some (.map es) => if rKey kk k = true ∧ (base ≤ i ∨ x.maxRef ≤ i + 1) then (findV k es 0).map fun r => match r with
   | some (j, _) => (.tup [], hset H i (.map (es.set j (k, x))))
   | none => (.tup [], hset H i (.map (es ++ [(k, x)])))
  else none
 | _ => none
@[simp] theorem Qhk (base kk i : Nat) (k x : V) (H : Heap) (es : List (V × V)) : updB base kk i k x H (some (.map es)) = if rKey kk k = true ∧ (base ≤ i ∨ x.maxRef ≤ i + 1) then (findV k es 0).map fun r => match r with
   | some (j, _) => (.tup [], hset H i (.map (es.set j (k, x))))
   | none => (.tup [], hset H i (.map (es ++ [(k, x)])))
  else none := rfl
/-! What a call hands back. -/
def rtF (base : Nat) (v : V) (H : Heap) : Option V → Option (Out × Heap)
 | some v' => if v'.maxRef ≤ base then some (.ret v', htrunc H base) else some (.ret v, H)
 | none => if v.maxRef ≤ base then some (.ret v, htrunc H base) else some (.ret v, H)
theorem rt_F (base : Nat) (v : V) (H : Heap) : rt false base v H = rtF base v H (frz H base depth v) := by
 rw [rt_eq]
 unfold retO retK rtF
 simp only [Bool.false_eq_true, if_false]
 cases frz H base depth v with
 | none => simp only; split <;> rfl
 | some v' => simp only; split <;> rfl
@[simp] theorem Qgb (base : Nat) (cs : List V) (H : Heap) : rt false base (.agg cs) H = rtF base (.agg cs) H (frz H base depth (.agg cs)) := rt_F _ _ _
@[simp] theorem Qgj (base : Nat) (v : V) (cs : List V) (H : Heap) : rt false base (.tup (v :: cs)) H = rtF base (.tup (v :: cs)) H (frz H base depth (.tup (v :: cs))) := rt_F _ _ _
@[simp] theorem Qgh (base a b c d e : Nat) (H : Heap) : rt false base (.rs a b c d e) H = rtF base (.rs a b c d e) H (frz H base depth (.rs a b c d e)) := rt_F _ _ _
@[simp] theorem Qgd (base : Nat) (t : TypeId) (v : V) (H : Heap) : rt false base (.iface t v) H = rtF base (.iface t v) H (frz H base depth (.iface t v)) := rt_F _ _ _
@[simp] theorem Qgl (base : Nat) (l : List V) (H : Heap) : rt false base (.vs l) H = some (.ret (.vs l), htrunc H base) := rt_frz rfl (Nat.zero_le _)
@[simp] theorem Qgg (base : Nat) (H : Heap) : rt false base .nils H = some (.ret (.vs []), htrunc H base) := rt_frz rfl (Nat.zero_le _)
@[simp] theorem Qga (base : Nat) (v v' : V) (H : Heap) : rtF base v H (some v') = if v'.maxRef ≤ base then some (.ret v', htrunc H base) else some (.ret v, H) := rfl
@[simp] theorem Qbe : depth = 11 + 1 := rfl
def V.plain : V → Bool
 | .nils | .rs _ _ _ _ _ | .agg _ | .tup _ | .iface _ _ => false
 | _ => true
theorem frz_plain {H : Heap} {base n : Nat} {v : V} (h : v.plain = true) : frz H base (n + 1) v = some v := by
 cases v <;> first | rfl | simp [V.plain] at h
section
variable (H : Heap) (base n : Nat)
@[simp] theorem Qbu (b : Bool) : frz H base (n + 1) (.bool b) = some (.bool b) := rfl
@[simp] theorem Qbx (k : IntKind) (x : Int) : frz H base (n + 1) (.int k x) = some (.int k x) := rfl
@[simp] theorem Qcc (s : List UInt8) : frz H base (n + 1) (.str s) = some (.str s) := rfl
@[simp] theorem Qce (l : List V) : frz H base (n + 1) (.vs l) = some (.vs l) := rfl
@[simp] theorem Qca : frz H base (n + 1) .nils = some (.vs []) := rfl
@[simp] theorem Qbz : frz H base (n + 1) .nilptr = some .nilptr := rfl
@[simp] theorem Qby : frz H base (n + 1) .niface = some .niface := rfl
@[simp] theorem Qcb (a b c : Nat) : frz H base (n + 1) (.ptr a b c) = some (.ptr a b c) := rfl
@[simp] theorem Qbv (f : FuncId) (l : List V) : frz H base (n + 1) (.fn f l) = some (.fn f l) := rfl
@[simp] theorem Qbt (cs : List V) : frz H base (n + 1) (.agg cs) = (mapO (frz H base n) cs).map .agg := rfl
@[simp] theorem Qcd (cs : List V) : frz H base (n + 1) (.tup cs) = (mapO (frz H base n) cs).map .tup := rfl
@[simp] theorem Qbw (t : TypeId) (v : V) : frz H base (n + 1) (.iface t v) = (frz H base n v).map (.iface t) := rfl
end
@[simp] theorem Qdb (f : V → Option V) : mapO f [] = some [] := rfl
@[simp] theorem Qda (f : V → Option V) (v : V) (l : List V) : mapO f (v :: l) = (f v).bind fun y => (mapO f l).map fun ys => y :: ys := rfl
theorem mapO_self {f : V → Option V} : ∀ {l : List V}, (∀ v ∈ l, f v = some v) → mapO f l = some l
 | [], _ => rfl
 | v :: l, h => by rw [mapO, h v (List.mem_cons_self ..), mapO_self fun u hu => h u (List.mem_cons_of_mem _ hu)]; rfl
theorem frz_row {H : Heap} {base n i ver sz len : Nat} {ag : Bool} {cs : List V} (hg : hget H i = some (.row ver sz ag cs)) (hb : base ≤ i) (hl : cs.length = len * sz) (hz : 0 < sz) (hs : ∀ c ∈ cs, frz H base n c = some c)
  (hc : cleanL cs = true) (hsc : scalL cs = true) (ha : ag = true ∨ sz = 1) : frz H base (n + 1) (.rs i ver sz 0 len) = some (.vs (chunk sz ag len cs)) := by
 rw [frz]
 rw [if_neg (by omega)]
 simp only [hg, Nat.zero_mul, List.drop_zero, Nat.zero_add]
 rw [if_pos (by simp; omega), List.take_of_length_le (by omega), mapO_self hs]
 simp only [Option.bind_some]
 rw [if_pos ⟨hc, hsc, ha⟩]
theorem chunk_flat {sz : Nat} : ∀ {l : List V}, (∀ v ∈ l, ∃ cs, v = .agg cs ∧ cs.length = sz) → chunk sz true l.length (flat l) = l
 | [], _ => rfl
 | v :: l, h => by
  obtain ⟨cs, rfl, hc⟩ := h v (List.mem_cons_self ..)
  simp only [List.length_cons, chunk, flat, Qan, if_true]
  rw [List.take_left' hc, List.drop_left' hc, chunk_flat fun u hu => h u (List.mem_cons_of_mem _ hu)]
end Go.Ev
end

section
/- Texts as rows of bytes. -/
namespace Go.Ev
set_option linter.unusedVariables false

theorem bytesV_map (s : List UInt8) : bytesV s = s.map fun b => V.int .u8 b.toNat := by
 induction s with
 | nil => rfl
 | cons b s ih => rw [bytesV, ih]; rfl
@[simp] theorem Qak (s : List UInt8) : (bytesV s).length = s.length := by simp [bytesV_map]
@[simp] theorem Qal (s : List UInt8) : scalL (bytesV s) = true := by
 induction s with
 | nil => rfl
 | cons b s ih => simp only [bytesV, scalL, ih]; rfl
@[simp] theorem Qaj (s : List UInt8) : bytesOf (bytesV s) = some s := by
 induction s with
 | nil => rfl
 | cons b s ih => simp [bytesV, bytesOf, ih]
@[simp] theorem Qeo (s : List UInt8) (H : Heap) : oBytes (.str s) H = some (.rs H.length 0 1 0 s.length, .row 0 1 false (bytesV s) :: H) := by
 rw [oBytes_eq]; simp [rBytes, rowOf]
theorem splice_at {a b : List V} {x y : V} {j : Nat} (ha : a.length = j) : splice (a ++ x :: b) j [y] = a ++ y :: b := by
 subst ha; simp [splice]

/-! Rows of structs. -/
theorem scalL_append (a b : List V) : scalL (a ++ b) = (scalL a && scalL b) := by
 induction a with
 | nil => simp
 | cons v a ih => simp [ih, Bool.and_assoc]
theorem cleanL_append (a b : List V) : cleanL (a ++ b) = (cleanL a && cleanL b) := by
 induction a with
 | nil => simp [cleanL]
 | cons v a ih => simp [cleanL, ih, Bool.and_assoc]
/-- Values of a struct of so many cells, that refer to nothing. -/
structure EncOK {α : Type} (f : α → V) (sz : Nat) : Prop where
 pos : 0 < sz
 agg : ∀ a, ∃ cs, f a = .agg cs ∧ cs.length = sz ∧ scalL cs = true ∧ cleanL cs = true ∧ (∀ c ∈ cs, c.plain = true) ∧ nrmL cs = cs
theorem clean_mrL : ∀ {cs : List V}, cleanL cs = true → (∀ c ∈ cs, c.plain = true) → maxRefL cs = 0 := by
 have key : ∀ v : V, v.clean = true → v.maxRef = 0 := by
  intro v
  exact V.rec (motive_1 := fun v => v.clean = true → v.maxRef = 0) (motive_2 := fun l => cleanL l = true → maxRefL l = 0)
   (by intro h; rfl) (by intros; rfl) (by intros; rfl) (by intros; rfl) (by intros; rfl) (by intro _ _ _ h; simp [V.clean] at h) (by intros; rfl) (by intros; rfl) (by intros; rfl)
   (by intro _ _ _ _ _ h; simp [V.clean] at h) (by intro _ _ ih h; exact ih h) (by intros; rfl) (by intros; rfl) (by intro _ _ ih h; exact ih h) (by intro _ ih h; exact ih h) (by intro _ ih h; exact ih h) (by intros; rfl)
   (by intro _ h; simp [V.clean] at h) (by intros; rfl) (by intro v l h1 h2 h; simp only [cleanL, Bool.and_eq_true] at h; simp [maxRefL, h1 h.1, h2 h.2]) v
 intro cs
 induction cs with
 | nil => intro _ _; rfl
 | cons v cs ih =>
  intro h1 h2
  simp only [cleanL, Bool.and_eq_true] at h1
  simp [key v h1.1, ih h1.2 (fun c hc => h2 c (List.mem_cons_of_mem _ hc))]
section
variable {α : Type} {f : α → V} {sz : Nat} (h : EncOK f sz)
include h
theorem EncOK.cells (a : α) : (f a).cells.length = sz := by obtain ⟨cs, e, h1, _⟩ := h.agg a; rw [e]; exact h1
theorem EncOK.scal (a : α) : scalL (f a).cells = true := by obtain ⟨cs, e, _, h1, _⟩ := h.agg a; rw [e]; exact h1
theorem EncOK.clean (a : α) : (f a).clean = true := by obtain ⟨cs, e, _, _, h1, _⟩ := h.agg a; rw [e]; exact h1
theorem EncOK.aggc (a : α) : V.agg (f a).cells = f a := by obtain ⟨cs, e, _⟩ := h.agg a; rw [e]; rfl
theorem EncOK.take (a : α) : V.agg (List.take sz (f a).cells) = f a := by rw [List.take_of_length_le (by rw [h.cells]; exact Nat.le_refl _), h.aggc]
theorem EncOK.nrm (a : α) : (f a).nrm = f a := by obtain ⟨cs, e, _, _, _, _, h1⟩ := h.agg a; rw [e]; simp [V.nrm, h1]
theorem EncOK.mr (a : α) : (f a).maxRef = 0 := by obtain ⟨cs, e, _, _, h1, h2, _⟩ := h.agg a; rw [e]; exact clean_mrL h1 h2
theorem EncOK.mrc (a : α) : maxRefL (f a).cells = 0 := by obtain ⟨cs, e, _, _, h1, h2, _⟩ := h.agg a; rw [e]; exact clean_mrL h1 h2
theorem EncOK.frz (H : Heap) (base n : Nat) (a : α) : frz H base (n + 1 + 1) (f a) = some (f a) := by
 obtain ⟨cs, e, _, _, _, h2, _⟩ := h.agg a
 rw [e, Qbt, mapO_self (fun c hc => frz_plain (h2 c hc))]; rfl
theorem EncOK.rt (base : Nat) (a : α) (H : Heap) : rt false base (f a) H = some (.ret (f a), htrunc H base) := rt_frz (h.frz H base 10 a) (by rw [h.mr]; exact Nat.zero_le _)
theorem EncOK.lit (z : V) (a : α) : oLit sz 1 z [(0, f a)] = some (.vs [f a]) := oLit_1 (h.cells a) (h.scal a) (h.nrm a) (h.clean a)
end
def cellsF {α : Type} (f : α → V) (l : List α) : List V := flat (l.map f)
theorem cellsF_append {α : Type} (f : α → V) (l m : List α) : cellsF f (l ++ m) = cellsF f l ++ cellsF f m := by
 induction l with
 | nil => rfl
 | cons e l ih => simp only [List.cons_append, cellsF, List.map_cons, flat] at ih ⊢; rw [ih]; simp
theorem cellsF_one {α : Type} (f : α → V) (a : α) : cellsF f [a] = (f a).cells := by simp [cellsF, flat]
theorem cellsF_cons {α : Type} (f : α → V) (a : α) (l : List α) : cellsF f (a :: l) = (f a).cells ++ cellsF f l := rfl
section
variable {α : Type} {f : α → V} {sz : Nat} (h : EncOK f sz)
include h
theorem EncOK.cellsF_length (l : List α) : (cellsF f l).length = l.length * sz := by
 induction l with
 | nil => simp [cellsF, flat]
 | cons e l ih => rw [cellsF_cons, List.length_append, h.cells, ih, List.length_cons, Nat.add_mul]; omega
theorem EncOK.cellsF_scal (l : List α) : scalL (cellsF f l) = true := by
 induction l with
 | nil => rfl
 | cons e l ih => rw [cellsF_cons, scalL_append, h.scal, ih]; rfl
theorem EncOK.cellsF_clean (l : List α) : cleanL (cellsF f l) = true := by
 induction l with
 | nil => rfl
 | cons e l ih => rw [cellsF_cons, cleanL_append, ih]; obtain ⟨cs, e', _, _, h1, _⟩ := h.agg e; rw [e']; simp [h1]
theorem EncOK.cellsF_plain (l : List α) : ∀ c ∈ cellsF f l, c.plain = true := by
 induction l with
 | nil => intro c hc; simp [cellsF, flat] at hc
 | cons e l ih =>
  intro c hc
  rw [cellsF_cons] at hc
  rcases List.mem_append.1 hc with hc | hc
  ·obtain ⟨cs, e', _, _, _, h1, _⟩ := h.agg e; rw [e'] at hc; exact h1 c hc
  ·exact ih c hc
theorem EncOK.chunk (l : List α) : chunk sz true l.length (cellsF f l) = l.map f := by
 have := chunk_flat (sz := sz) (l := l.map f) (fun v hv => by
  obtain ⟨e, _, rfl⟩ := List.mem_map.1 hv
  obtain ⟨cs, e', h1, _⟩ := h.agg e
  exact ⟨cs, e', h1⟩)
 rw [List.length_map] at this
 exact this
theorem EncOK.frz_row {H : Heap} {base n i ver : Nat} {l : List α} {m : Nat} (hg : hget H i = some (.row ver sz true (cellsF f l))) (hb : base ≤ i) (hm : m = l.length) : Ev.frz H base (n + 1 + 1) (.rs i ver sz 0 m) = some (.vs (l.map f)) := by
 subst hm
 rw [Ev.frz_row hg hb (h.cellsF_length l) h.pos (fun c hc => frz_plain (h.cellsF_plain l c hc)) (h.cellsF_clean l) (h.cellsF_scal l) (.inl rfl), h.chunk]
theorem EncOK.append {base by_ i ver : Nat} {H : Heap} {l : List α} {a : α} {n : Nat} (hg : hget H i = some (.row ver sz true (cellsF f l))) (hn : n = l.length) (hr : roomOk (l.length + 1) by_ = true) :
  oAppend base sz by_ true (.rs i ver sz 0 n) (.vs [f a]) H = some (.rs i (ver + 1) sz 0 (n + 1), hset H i (.row (ver + 1) sz true (cellsF f (l ++ [a])))) := by
 subst hn
 rw [oAppend_row1 hg (h.cellsF_length l) (h.cells a) (h.scal a) h.pos (.inr (by rw [h.mrc]; omega)) hr, cellsF_append, cellsF_one]
theorem EncOK.append_nil {base by_ : Nat} {H : Heap} {a : α} (hr : roomOk 1 by_ = true) : oAppend base sz by_ true .nils (.vs [f a]) H = some (.rs H.length 0 sz 0 1, .row 0 sz true (cellsF f [a]) :: H) := by
 rw [oAppend_nil1 (h.cells a) (h.scal a) h.pos hr, cellsF_one]
theorem EncOK.row {z : List V} {a : α} {H : Heap} (hz : z.length = sz) : oRow 1 sz true z H [(0, f a)] = some (.rs H.length 0 sz 0 1, .row 0 sz true (cellsF f [a]) :: H) := by
 rw [oRow_1 hz (h.cells a) (h.scal a) h.pos, cellsF_one]
end
@[simp] theorem Qct (a : Blk) (H : Heap) : htrunc (a :: H) (H.length + 1) = a :: H := htrunc_eq (by simp)
@[simp] theorem Qcu (a b : Blk) (H : Heap) : htrunc (a :: b :: H) (H.length + 1 + 1) = a :: b :: H := htrunc_eq (by simp)
@[simp] theorem Qcv (a b c : Blk) (H : Heap) : htrunc (a :: b :: c :: H) (H.length + 1 + 1 + 1) = a :: b :: c :: H := htrunc_eq (by simp)
@[simp] theorem Qcw (a b c d : Blk) (H : Heap) : htrunc (a :: b :: c :: d :: H) (H.length + 1 + 1 + 1 + 1) = a :: b :: c :: d :: H := htrunc_eq (by simp)
end Go.Ev
end

section
/- More for simp: arrays, rows that are read and written, bits. -/
namespace Go.Ev
set_option linter.unusedVariables false

theorem oIndexPtrA_at {len n i v o : Nat} {k : IntKind} {j : Nat} (h : j < len) : oIndexPtrA len n (.ptr i v o) (.int k (j : Int)) = some (.ptr i v (o + j * n)) := by
 rw [oIndexPtrA_eq]; simp [rIndexPtrA, asNat, fieldPtr, h]
theorem oIndexA_at {len n : Nat} {k : IntKind} {j : Nat} {cs : List V} (h : j < len) (hc : cs.length = len * 1) : oIndexA len false 1 (.agg cs) (.int k (j : Int)) = cs[j]? := by
 rw [oIndexA_eq]
 simp [rIndexA, asNat, h, hc, Nat.succ_le_of_lt h, takeCells]
 omega
theorem oBin_shr {e : Nat} {k l : IntKind} {x y : Int} (h : 0 ≤ y) : oBin .shr e (.int k x) (.int l y) = some (.int k (x.fdiv (2 ^ (min y.toNat k.bits)))) := by
 rw [oBin_eq]; simp [rBin, rBin0, vBinE, vShift, Int.not_lt.2 h]
theorem oBin_shl {e : Nat} {k l : IntKind} {x y : Int} (h : 0 ≤ y) : oBin .shl e (.int k x) (.int l y) = some (.int k (k.wrap (x * 2 ^ (min y.toNat k.bits)))) := by
 rw [oBin_eq]; simp [rBin, rBin0, vBinE, vShift, Int.not_lt.2 h]
theorem oText_vs {H : Heap} {s : List UInt8} : oText H (.vs (s.map fun b => .int .u8 b.toNat)) = some (.str s) := by
 have h1 : allLen 1 (s.map fun b : UInt8 => V.int .u8 b.toNat) = true := by
  induction s with
  | nil => rfl
  | cons a s ih => simpa [allLen] using ih
 have h2 : flat (s.map fun b : UInt8 => V.int .u8 b.toNat) = bytesV s := by
  clear h1
  induction s with
  | nil => rfl
  | cons a s ih => simp only [List.map_cons, flat, ih, bytesV]; rfl
 rw [oText_eq]
 simp [rText, slCells, h1, h2, Qaj]
theorem and_mask {u k : Nat} (hu : u < 18446744073709551616) (hk : k ≤ 64) : IntKind.u64.wrap (((BitVec.ofInt IntKind.u64.bits (u : Int) &&& BitVec.ofInt IntKind.u64.bits ((2 ^ k - 1 : Nat) : Int)).toNat : Nat) : Int) = ((u % 2 ^ k : Nat) : Int) := by
 have hb : IntKind.u64.bits = 64 := rfl
 rw [hb]
 have h2 : 2 ^ k ≤ 2 ^ 64 := Nat.pow_le_pow_right (by omega) hk
 have hp : 0 < 2 ^ k := Nat.pow_pos (by omega)
 have e1 : (BitVec.ofInt 64 (u : Int) &&& BitVec.ofInt 64 ((2 ^ k - 1 : Nat) : Int)).toNat = u % 2 ^ k := by
  rw [BitVec.toNat_and, BitVec.ofInt_natCast, BitVec.ofInt_natCast, BitVec.toNat_ofNat, BitVec.toNat_ofNat, Nat.mod_eq_of_lt (by simpa using hu), Nat.mod_eq_of_lt (a := 2 ^ k - 1) (by omega), Nat.and_two_pow_sub_one_eq_mod]
 rw [e1]
 have h3 : u % 2 ^ k ≤ u := Nat.mod_le _ _
 simp only [IntKind.wrap, IntKind.bits, IntKind.signed, Bool.false_and, Bool.false_eq_true, if_false, Int.reducePow]
 omega
/-! Blocks that lie ahead. -/
theorem hget_app {G H : Heap} {i : Nat} (h : i < H.length) : hget (G ++ H) i = hget H i := by
 induction G with
 | nil => rfl
 | cons b G ih => rw [List.cons_append, hget_old b (by simp; omega), ih]
theorem hset_app {G H : Heap} {i : Nat} {x : Blk} (h : i < H.length) : hset (G ++ H) i x = G ++ hset H i x := by
 induction G with
 | nil => rfl
 | cons b G ih => rw [List.cons_append, hset_below (by simp; omega), ih]; rfl
theorem htrunc_app {G H : Heap} {n : Nat} (h : n ≤ H.length) : htrunc (G ++ H) n = htrunc H n := by
 induction G with
 | nil => rfl
 | cons b G ih => rw [List.cons_append, htrunc_cons (by simp; omega), ih]
end Go.Ev
end

section
/- Steps of a law's own function, one by one: what comes is known by its size alone. -/
namespace Go.Ev
set_option linter.unusedVariables false
section
variable {α : Type}
theorem idx_int {l : List Int} {k' : IntKind} {i : Int} (h0 : 0 ≤ i) (h1 : i < l.length) {k : IntKind} : ∃ n ∈ l, oIndexPtr 1 (.vs (l.map (V.int k'))) (.int k i) = some (.fptr [.int k' n]) := by
 have hi : i.toNat < l.length := by omega
 refine ⟨l[i.toNat], List.getElem_mem hi, ?_⟩
 have := oIndexPtr_vs (sz := 1) (xs := l.map (V.int k')) (k := k) (j := i.toNat) (y := .int k' l[i.toNat]) (by simp [hi]) rfl
 rw [show ((i.toNat : Nat) : Int) = i by omega] at this
 exact this
theorem u8_range {n : Int} (h : (Lit.int .u8 n).wf = true) : 0 ≤ n ∧ n ≤ 255 := by simpa [Lit.wf, IntKind.min, IntKind.max, IntKind.signed, IntKind.bits] using h
end
end Go.Ev
end

section
/- Heaps that have grown. -/
namespace Go.Ev
set_option linter.unusedVariables false
/-- G is H with more blocks on top. -/
def Up (H G : Heap) : Prop := ∃ F, G = F ++ H
theorem Up.refl (H : Heap) : Up H H := ⟨[], rfl⟩
theorem Up.cons {H G : Heap} (h : Up H G) (b : Blk) : Up H (b :: G) := by obtain ⟨F, rfl⟩ := h; exact ⟨b :: F, rfl⟩
theorem Up.trans {H G K : Heap} (h : Up H G) (g : Up G K) : Up H K := by obtain ⟨F, rfl⟩ := h; obtain ⟨F', rfl⟩ := g; exact ⟨F' ++ F, by simp⟩
theorem Up.len {H G : Heap} (h : Up H G) : H.length ≤ G.length := by obtain ⟨F, rfl⟩ := h; simp
theorem Up.get {H G : Heap} (h : Up H G) {i : Nat} (hi : i < H.length) : hget G i = hget H i := by obtain ⟨F, rfl⟩ := h; exact hget_app hi
theorem Up.trunc {H G : Heap} (h : Up H G) : htrunc G H.length = H := by obtain ⟨F, rfl⟩ := h; rw [htrunc_app (Nat.le_refl _)]; simp
theorem hset_up {H : Heap} {i : Nat} {x : Blk} (hi : H.length ≤ i) : ∀ F : Heap, ∃ F', hset (F ++ H) i x = F' ++ H
 | [] => ⟨[], by
  have : ∀ (H : Heap), H.length ≤ i → hset H i x = H := by
   intro H
   induction H with
   | nil => intro _; rfl
   | cons b H ih => intro h; simp only [List.length_cons] at h; rw [hset_below (by omega), ih (by omega)]
  simpa using this H hi⟩
 | b :: F => by
  by_cases e : i = (F ++ H).length
  ·subst e; exact ⟨x :: F, by simp⟩
  ·obtain ⟨F', h⟩ := hset_up hi F
   exact ⟨b :: F', by rw [List.cons_append, hset_below e, h]; rfl⟩
theorem Up.set {H G : Heap} (h : Up H G) {i : Nat} (hi : H.length ≤ i) (x : Blk) : Up H (hset G i x) := by
 obtain ⟨F, rfl⟩ := h
 exact hset_up hi F
/-- What stands below changes in the same way. -/
theorem Up.set_low {H G : Heap} (h : Up H G) {i : Nat} (hi : i < H.length) (x : Blk) : Up (hset H i x) (hset G i x) := by
 obtain ⟨F, rfl⟩ := h
 exact ⟨F, hset_app hi⟩
end Go.Ev
end

section
/- From data to values: slices of whatever. -/
namespace Go.Ev
set_option linter.unusedVariables false

end Go.Ev
end

