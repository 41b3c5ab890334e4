/- EvH: a part of the proof that each law of this seat answers true at every input. No condition. -/
import Derived.Test.YthpghekebjadcaaEvF
set_option linter.unusedVariables false
set_option linter.unusedSimpArgs false
section
namespace Go.Ev
variable {α : Type} {β : Type}
@[congr] theorem Dv {x x' : Option V} {f : V → Option α} (h : x = x') : bnd x f = bnd x' f := by rw [h]
@[congr] theorem Du {x x' : Option (V × Qa)} {f : V → Qa → Option α} (h : x = x') : beff x f = beff x' f := by rw [h]
@[congr] theorem Dr {x x' : Option (Out × Qa)} {f g : V → Qa → Option α} (h : x = x') : bcall x f g = bcall x' f g := by rw [h]
@[congr] theorem Dp {x x' : Option (FuncId × List V)} {f : FuncId × List V → Option α} (h : x = x') : bdef x f = bdef x' f := by rw [h]
@[congr] theorem Dn {v v' : V} {a b : Option α} (h : v = v') : cnd v a b = cnd v' a b := by rw [h]
@[congr] theorem Dt {v v' : V} {w : Bool} {a b : Option β} (h : v = v') : gua v w a b = gua v' w a b := by rw [h]
@[congr] theorem Dw {b b' : Bool} {a : Option α} (h : b = b') : sch b a = sch b' a := by rw [h]
@[simp] theorem Qah (v : V) (f : V → Option α) : bnd (some v) f = f v := by rw [Zu]; rfl
@[simp] theorem Qag (v : V) (H : Qa) (f : V → Qa → Option α) : beff (some (v,H)) f = f v H := by rw [Jj]; rfl
@[simp] theorem Qab (v : V) (H : Qa) (f g : V → Qa → Option α) : bcall (some (.ret v,H)) f g = f v H := by rw [JM]; rfl
@[simp] theorem Qaa (v : V) (H : Qa) (f g : V → Qa → Option α) : bcall (some (.pan v,H)) f g = g v H := by rw [JM]; rfl
@[simp] theorem Qac (r : FuncId × List V) (f : FuncId × List V → Option α) : bdef (some r) f = f r := by rw [Vk]; rfl
@[simp] theorem Qad (b : Bool) (H : Qa) (f : Qa → Option α) : bdn (some (b,H)) f = f H := by rw [NM]; rfl
@[simp] theorem Qaf (H : Qa) (f g : Qa → Option α) : bdp (some (true,H)) f g = f H := by rw [BI]; rfl
@[simp] theorem Qae (H : Qa) (f g : Qa → Option α) : bdp (some (false,H)) f g = g H := by rw [BI]; rfl
@[simp] theorem Qbe (a b : Option α) : cnd (.bool true) a b = a := by rw [Ju]; rfl
@[simp] theorem Qbd (a b : Option α) : cnd (.bool false) a b = b := by rw [Ju]; rfl
@[simp] theorem Qcl (w : Bool) (a b : Option β) : gua (.bool w) w a b = a := by rw [Y2]; simp [Yc]
@[simp] theorem Qcj (a b : Option β) : gua (.bool true) false a b = b := by rw [Y2]; simp [Yc]
@[simp] theorem Qci (a b : Option β) : gua (.bool false) true a b = b := by rw [Y2]; simp [Yc]
@[simp] theorem Qck (vs : List V) (w : Bool) (a b : Option β) : gua (.tup vs) w a b = b := by rw [Y2]; rfl
@[simp] theorem Qhg (a : Option α) : sch true a = a := by rw [Kp]; rfl
mutual
theorem V.beq_self : ∀ v : V,V.beq v v = true
 | .junk | .nilptr | .nils | .emp | .nilfn | .niface | .nilmap => rfl
 | .bool _ | .str _ | .ptr _ _ _ | .rs _ _ _ _ _ | .mapr _ => by simp [V.beq]
 | .int k n => by cases k <;> simp [V.beq]
 | .fptr a | .vs a | .agg a | .tup a => by rw [V.beq]; exact U9 a
 | .fn _ a => by rw [V.beq,U9 a]; simp
 | .iface _ a => by rw [V.beq,V.beq_self a]; simp
theorem U9 : ∀ l : List V,Zw l l = true
 | [] => rfl
 | v :: l => by rw [Zw,V.beq_self v,U9 l]; rfl
end
@[simp] theorem Qgp (v : V) : sam (some v) v = true := by rw [Rc]; exact V.beq_self v
@[simp] theorem Qfp (x : V) : Zf x = some x := by rw [We]; rfl
@[simp] theorem Qez (t : TypeId) (x : V) : B0 t x = some (.iface t x) := by rw [K2]; rfl
@[simp] theorem Qfo (f : FuncId) (l : List V) : Rl f l = some (.fn f l) := by rw [WP]; rfl
@[simp] theorem Qfu (a b : V) : ZF (.bool true) a b = some a := by rw [Kh]; rfl
@[simp] theorem Qft (a b : V) : ZF (.bool false) a b = some b := by rw [Kh]; rfl
@[simp] theorem Qfr (i v o : Nat) : VZ (.ptr i v o) = some (.ptr i v o) := by rw [Ki]; rfl
@[simp] theorem Qfq (cs : List V) : VZ (.fptr cs) = some (.fptr cs) := by rw [Ki]; rfl
@[simp] theorem Qew (i v o f : Nat) : Z2 (.ptr i v o) f = some (.ptr i v (o + f)) := by rw [Wr]; rfl
@[simp] theorem Qfs (t : TypeId) (v : V) : UX (.iface t v) = some (.iface t v) := by rw [N0]; rfl
@[simp] theorem Qey (f : FuncId) (cap args : List V) : oFn (.fn f cap) args = some (f,args ++ cap) := by rw [NQ]; rfl
@[simp] theorem Qes (call : Qc) (f : FuncId) (cap args : List V) (H : Qa) : BJ call (.fn f cap) args H = call f (args ++ cap) H := by rw [Rv]; rfl
@[simp] theorem Qfx (b : Bool) : oUn .not (.bool b) = some (.bool !b) := by rw [Kx]; rfl
@[simp] theorem Qfw (k : IntKind) (n : Int) : oUn .neg (.int k n) = some (.int k (k.wrap (0 - n))) := by rw [Kx]; rfl
@[simp] theorem Qfb (k l : IntKind) (n : Int) : VW k (.int l n) = some (.int k (k.wrap n)) := by rw [Wy]; rfl
@[simp] theorem Qfv (s : List UInt8) : R3 (.str s) = some (.str s) := by rw [Ws]; rfl
@[simp] theorem Qfg (s : List UInt8) : BS (.str s) = some (.int .i64 s.length) := by rw [Wp]; rfl
@[simp] theorem Qfd : Yb .nils = some (.int .i64 0) := by rw [JD]; rfl
@[simp] theorem Qff (l : List V) : Yb (.vs l) = some (.int .i64 l.length) := by rw [JD]; rfl
@[simp] theorem Qfe (i v s o n : Nat) : Yb (.rs i v s o n) = some (.int .i64 n) := by rw [JD]; rfl
@[simp] theorem Qfc (n : Nat) : R4 n = some (.int .i64 n) := by rw [WU]; rfl
@[simp] theorem Qet (a : V) (l : List V) : Vf (.tup (a :: l)) 0 = some a := by rw [JB]; rfl
@[simp] theorem Qeu (a b : V) (l : List V) : Vf (.tup (a :: b :: l)) 1 = some b := by rw [JB]; rfl
@[simp] theorem Qev (a b c : V) (l : List V) : Vf (.tup (a :: b :: c :: l)) 2 = some c := by rw [JB]; rfl
@[simp] theorem Qdx (t : TypeId) (v : V) : R9 t (.iface t v) = some v := by rw [Wi]; simp [W9]
section
variable (k : IntKind) (e : Nat) (x y : Int)
theorem ZT (op : BinOp) (h1 : op ≠ .shl) (h2 : op ≠ .shr) : Qr op e (.int k x) (.int k y) = Jm op k x y := by
 rw [Y4]; unfold J3 KM JI
 cases op <;> simp_all [Jm] <;> split <;> simp_all
@[simp] theorem Qea : Qr .add e (.int k x) (.int k y) = some (.int k (k.wrap (x + y))) := by rw [ZT _ _ _ _ _ (by simp) (by simp)]; rfl
@[simp] theorem Qeo : Qr .sub e (.int k x) (.int k y) = some (.int k (k.wrap (x - y))) := by rw [ZT _ _ _ _ _ (by simp) (by simp)]; rfl
@[simp] theorem Qej : Qr .mul e (.int k x) (.int k y) = some (.int k (k.wrap (x * y))) := by rw [ZT _ _ _ _ _ (by simp) (by simp)]; rfl
@[simp] theorem Qee : Qr .eql e (.int k x) (.int k y) = some (.bool (decide (x = y))) := by rw [ZT _ _ _ _ _ (by simp) (by simp)]; simp [Jm,BEq.beq]
@[simp] theorem Qek : Qr .neq e (.int k x) (.int k y) = some (.bool (!decide (x = y))) := by rw [ZT _ _ _ _ _ (by simp) (by simp)]; simp [Jm,bne,BEq.beq]
@[simp] theorem Qei : Qr .lss e (.int k x) (.int k y) = some (.bool (decide (x < y))) := by rw [ZT _ _ _ _ _ (by simp) (by simp)]; rfl
@[simp] theorem Qeh : Qr .leq e (.int k x) (.int k y) = some (.bool (decide (x ≤ y))) := by rw [ZT _ _ _ _ _ (by simp) (by simp)]; rfl
@[simp] theorem Qeg : Qr .gtr e (.int k x) (.int k y) = some (.bool (decide (y < x))) := by rw [ZT _ _ _ _ _ (by simp) (by simp)]; rfl
@[simp] theorem Qef : Qr .geq e (.int k x) (.int k y) = some (.bool (decide (y ≤ x))) := by rw [ZT _ _ _ _ _ (by simp) (by simp)]; rfl
theorem GK (h : y ≠ 0) : Qr .rem e (.int k x) (.int k y) = some (.int k (x.tmod y)) := by rw [ZT _ _ _ _ _ (by simp) (by simp)]; simp [Jm,h]
@[simp] theorem Qel : Qr .or e (.int k x) (.int k y) = some (.int k (k.wrap ((BitVec.ofInt k.bits x ||| BitVec.ofInt k.bits y).toNat))) := by rw [ZT _ _ _ _ _ (by simp) (by simp)]; rfl
@[simp] theorem Qeb : Qr .and e (.int k x) (.int k y) = some (.int k (k.wrap ((BitVec.ofInt k.bits x &&& BitVec.ofInt k.bits y).toNat))) := by rw [ZT _ _ _ _ _ (by simp) (by simp)]; rfl
end
section
variable (e : Nat) (s t : List UInt8)
theorem ML (op : BinOp) (h1 : op ≠ .shl) (h2 : op ≠ .shr) : Qr op e (.str s) (.str t) = JW op s t := by
 rw [Y4]; unfold J3 KM JI
 cases op <;> simp_all [JW] <;> split <;> simp_all
@[simp] theorem Qem : Qr .eql e (.str s) (.str t) = some (.bool (decide (s = t))) := by rw [ML _ _ _ _ (by simp) (by simp)]; simp only [JW]; congr 2; by_cases h : s = t <;> simp [h]
@[simp] theorem Qen : Qr .neq e (.str s) (.str t) = some (.bool (!decide (s = t))) := by rw [ML _ _ _ _ (by simp) (by simp)]; simp only [JW]; congr 2; by_cases h : s = t <;> simp [h]
end
@[simp] theorem Qec (a b : Bool) : Qr .eql 0 (.bool a) (.bool b) = some (.bool (a == b)) := by rw [Y4]; rfl
@[simp] theorem Qed (a b : Bool) : Qr .neq 0 (.bool a) (.bool b) = some (.bool !(a == b)) := by rw [Y4]; rfl
@[simp] theorem Qdy (t : TypeId) (v : V) (c : Bool) : Ur .neq c (.iface t v) .niface = some (.bool true) := by rw [Ko]; rfl
@[simp] theorem Qdz : Ur .neq true .niface .niface = some (.bool false) := by rw [Ko]; rfl
theorem NK {i : Nat} {x y : Blk} : ∀ {H : Qa},Qm (Qm H i x) i y = Qm H i y
 | [] => rfl
 | b :: H => by
  simp only [Qm]
  split
  ·simp only [Qm]; split <;> simp_all
  ·rename_i h; simp only [Qm,LW]; rw [if_neg h,NK]
@[simp] theorem Qcp (b : Blk) (H : Qa) : Qd (b :: H) H.length = some b := by simp [Qd]
theorem Gn {b x : Blk} {H : Qa} {i : Nat} (h : i ≠ H.length) : Qm (b :: H) i x = b :: Qm H i x := by simp [Qm,h]
@[simp] theorem Qct (b x : Blk) (H : Qa) : Qm (b :: H) H.length x = x :: H := by simp [Qm]
@[simp] theorem Qda (H : Qa) : Qx H H.length = H := by simp [Qx]
theorem KZ {H : Qa} {n : Nat} (h : H.length = n) : Qx H n = H := by subst h; simp
theorem PY {b : Blk} {H : Qa} {n : Nat} (h : n ≤ H.length) : Qx (b :: H) n = Qx H n := by
 unfold Qx
 rw [List.length_cons,show H.length + 1 - n = (H.length - n) + 1 by omega,List.drop_succ_cons]
def KI (ag : Bool) (n ver off : Nat) : Option Blk → Option V
 | some (.var cs) => if ver = 0 then Q3 ag n (cs.drop off) else none
 | some (.row v _ _ cs) => if ver = v then Q3 ag n (cs.drop off) else none
 | _ => none
theorem Z3 (ag : Bool) (n : Nat) (H : Qa) (i ver off : Nat) : QN ag n H (.ptr i ver off) = KI ag n ver off (Qd H i) := by
 rw [JQ]
 unfold Ji Jf KI
 cases hg : Qd H i with
 | none => simp [hg]
 | some b =>
  cases b with
  | var cs => simp only [hg]; split <;> rfl
  | row v sz ag' cs => simp only [hg]; split <;> rfl
  | dead => simp [hg]
  | map es => simp [hg]
@[simp] theorem Qdc (ag : Bool) (n off : Nat) (cs : List V) : KI ag n 0 off (some (.var cs)) = Q3 ag n (cs.drop off) := by simp [KI]
@[simp] theorem Qdb (ag ag' : Bool) (n off ver sz : Nat) (cs : List V) : KI ag n ver off (some (.row ver sz ag' cs)) = Q3 ag n (cs.drop off) := by simp [KI]
@[simp] theorem Qfk (ag : Bool) (n : Nat) (H : Qa) (cs : List V) : QN ag n H (.fptr cs) = Q3 ag n cs := by rw [JQ]; rfl
@[simp] theorem Qhm (v : V) (cs : List V) : Q3 false 1 (v :: cs) = some v := by simp [Q3]
theorem F0 {n : Nat} {cs : List V} (h : n ≤ cs.length) : Q3 true n cs = some (.agg (cs.take n)) := by simp [Q3,h]
def V1 (O n i ver off : Nat) (x : V) (H : Qa) : Option Blk → Option (V × Qa)
 | some (.var cs) => if x.cells.length = n ∧ Qi x.cells = true ∧ (O ≤ i ∨ x.maxRef ≤ i + 1) ∧ ver = 0 ∧ off + n ≤ cs.length then some (.tup [],Qm H i (.var (splice cs off x.cells))) else none
 | some (.row v sz ag cs) => if x.cells.length = n ∧ Qi x.cells = true ∧ (O ≤ i ∨ x.maxRef ≤ i + 1) ∧ ver = v ∧ off + n ≤ cs.length then some (.tup [],Qm H i (.row v sz ag (splice cs off x.cells))) else none
 | _ => none
theorem Yh (O n : Nat) (H : Qa) (i ver off : Nat) (x : V) : YC O n H (.ptr i ver off) x = V1 O n i ver off x H (Qd H i) := by
 rw [KY]
 unfold UU Vb V1 fits
 by_cases h1 : x.cells.length = n ∧ Qi x.cells = true
 ·rw [if_pos h1]
  by_cases h2 : O ≤ i ∨ x.maxRef ≤ i + 1
  ·have hb : (decide (O ≤ i) || decide (x.maxRef ≤ i + 1)) = true := by simpa using h2
   simp only [hb,if_true]
   cases hg : Qd H i with
   | none => rfl
   | some b =>
    cases b with
    | var cs =>
     simp only
     by_cases h3 : ver = 0 ∧ off + n ≤ cs.length
     ·rw [if_pos h3,if_pos ⟨h1.1,h1.2,h2,h3.1,h3.2⟩]; rfl
     ·rw [if_neg h3,if_neg (fun hh => h3 ⟨hh.2.2.2.1,hh.2.2.2.2⟩)]; rfl
    | row v sz ag cs =>
     simp only
     by_cases h3 : ver = v ∧ off + n ≤ cs.length
     ·rw [if_pos h3,if_pos ⟨h1.1,h1.2,h2,h3.1,h3.2⟩]; rfl
     ·rw [if_neg h3,if_neg (fun hh => h3 ⟨hh.2.2.2.1,hh.2.2.2.2⟩)]; rfl
    | dead => rfl
    | map es => rfl
  ·have hb : ¬ (decide (O ≤ i) || decide (x.maxRef ≤ i + 1)) = true := by simpa using h2
   simp only [hb,if_false]
   cases Qd H i with
   | none => rfl
   | some b => cases b <;> simp [h2]
 ·rw [if_neg h1]
  cases Qd H i with
  | none => rfl
  | some b => cases b <;> simp <;> intro a b <;> exact absurd ⟨a,b⟩ h1
theorem RU {H : Qa} {x : V} (h : Qi x.cells = true) : Z8 H x = some (.ptr H.length 0 0,.var x.cells :: H) := by rw [Wt]; simp [K8,newVar,h]
theorem YH {O : Nat} {v v' : V} {H : Qa} (h : frz H O depth v = some v') (hm : v'.maxRef ≤ O) : rt false O v H = some (.ret v',Qx H O) := by
 rw [BF]; simp [Wu,Zl,h,hm]
theorem Ew {O : Nat} {v v' : V} {H : Qa} (h : frz H O depth v = some v') (hm : v'.maxRef ≤ O) : pn false O v H = some (.pan v',Qx H O) := by
 rw [NF]; simp [U4,Zl,h,hm]
@[simp] theorem Qgf (O : Nat) (b : Bool) (H : Qa) : rt false O (.bool b) H = some (.ret (.bool b),Qx H O) := YH rfl (Nat.zero_le _)
@[simp] theorem Qgh (O : Nat) (k : IntKind) (n : Int) (H : Qa) : rt false O (.int k n) H = some (.ret (.int k n),Qx H O) := YH rfl (Nat.zero_le _)
@[simp] theorem Qgl (O : Nat) (s : List UInt8) (H : Qa) : rt false O (.str s) H = some (.ret (.str s),Qx H O) := YH rfl (Nat.zero_le _)
@[simp] theorem Qgn (O : Nat) (H : Qa) : rt false O (.tup []) H = some (.ret (.tup []),Qx H O) := YH rfl (Nat.zero_le _)
@[simp] theorem Qfz (O : Nat) (t : TypeId) (k : IntKind) (n : Int) (H : Qa) : pn false O (.iface t (.int k n)) H = some (.pan (.iface t (.int k n)),Qx H O) := Ew rfl (Nat.zero_le _)
@[simp] theorem Qgi (O : Nat) (k : IntKind) (n : Int) (b : Bool) (H : Qa) : rt false O (.tup [.int k n,.bool b]) H = some (.ret (.tup [.int k n,.bool b]),Qx H O) := YH rfl (Nat.zero_le _)
@[simp] theorem Qfa (c : UInt8) (s : List UInt8) (k : IntKind) : RP (.str (c :: s)) (.int k 0) = some (.int .u8 c.toNat) := by rw [Wc]; rfl
end Go.Ev
end
section
namespace Go.Ev
@[simp] theorem Qap (b : Bool) : (V.bool b).cells = [.bool b] := rfl
@[simp] theorem Qas (k : IntKind) (n : Int) : (V.int k n).cells = [.int k n] := rfl
@[simp] theorem Qbb (s : List UInt8) : (V.str s).cells = [.str s] := rfl
@[simp] theorem Qax : V.nilptr.cells = [.nilptr] := rfl
@[simp] theorem Qaz (a b c : Nat) : (V.ptr a b c).cells = [.ptr a b c] := rfl
@[simp] theorem Qay : V.nils.cells = [.nils] := rfl
@[simp] theorem Qbc (l : List V) : (V.vs l).cells = [.vs l] := rfl
@[simp] theorem Qba (a b c d e : Nat) : (V.rs a b c d e).cells = [.rs a b c d e] := rfl
@[simp] theorem Qaq (f : FuncId) (l : List V) : (V.fn f l).cells = [.fn f l] := rfl
@[simp] theorem Qav : V.nilfn.cells = [.nilfn] := rfl
@[simp] theorem Qau : V.niface.cells = [.niface] := rfl
@[simp] theorem Qar (t : TypeId) (v : V) : (V.iface t v).cells = [.iface t v] := rfl
@[simp] theorem Qaw : V.nilmap.cells = [.nilmap] := rfl
@[simp] theorem Qat (a : Nat) : (V.mapr a).cells = [.mapr a] := rfl
@[simp] theorem Qao (l : List V) : (V.agg l).cells = l := rfl
@[simp] theorem Qgr : Qi [] = true := rfl
@[simp] theorem Qgq (v : V) (l : List V) : Qi (v :: l) = (v.scal && Qi l) := rfl
@[simp] theorem Qgs (b : Bool) : (V.bool b).scal = true := rfl
@[simp] theorem Qgv (k : IntKind) (n : Int) : (V.int k n).scal = true := rfl
@[simp] theorem Qhe (s : List UInt8) : (V.str s).scal = true := rfl
@[simp] theorem Qha : V.nilptr.scal = true := rfl
@[simp] theorem Qhc (a b c : Nat) : (V.ptr a b c).scal = true := rfl
@[simp] theorem Qhb : V.nils.scal = true := rfl
@[simp] theorem Qhf (l : List V) : (V.vs l).scal = true := rfl
@[simp] theorem Qhd (a b c d e : Nat) : (V.rs a b c d e).scal = true := rfl
@[simp] theorem Qgt (f : FuncId) (l : List V) : (V.fn f l).scal = true := rfl
@[simp] theorem Qgy : V.nilfn.scal = true := rfl
@[simp] theorem Qgx : V.niface.scal = true := rfl
@[simp] theorem Qgu (t : TypeId) (v : V) : (V.iface t v).scal = true := rfl
@[simp] theorem Qgz : V.nilmap.scal = true := rfl
@[simp] theorem Qgw (a : Nat) : (V.mapr a).scal = true := rfl
@[simp] theorem Qdi (b : Bool) : (V.bool b).maxRef = 0 := rfl
@[simp] theorem Qdl (k : IntKind) (n : Int) : (V.int k n).maxRef = 0 := rfl
@[simp] theorem Qdu (s : List UInt8) : (V.str s).maxRef = 0 := rfl
@[simp] theorem Qdq : V.nilptr.maxRef = 0 := rfl
@[simp] theorem Qdr : V.nils.maxRef = 0 := rfl
@[simp] theorem Qdw (l : List V) : (V.vs l).maxRef = 0 := rfl
@[simp] theorem Qdo : V.nilfn.maxRef = 0 := rfl
@[simp] theorem Qdn : V.niface.maxRef = 0 := rfl
@[simp] theorem Qdp : V.nilmap.maxRef = 0 := rfl
@[simp] theorem Qds (a b c : Nat) : (V.ptr a b c).maxRef = a + 1 := rfl
@[simp] theorem Qdt (a b c d e : Nat) : (V.rs a b c d e).maxRef = a + 1 := rfl
@[simp] theorem Qdm (a : Nat) : (V.mapr a).maxRef = a + 1 := rfl
@[simp] theorem Qdh (l : List V) : (V.agg l).maxRef = QD l := rfl
@[simp] theorem Qdv (l : List V) : (V.tup l).maxRef = QD l := rfl
@[simp] theorem Qdj (f : FuncId) (l : List V) : (V.fn f l).maxRef = QD l := rfl
@[simp] theorem Qdk (t : TypeId) (v : V) : (V.iface t v).maxRef = v.maxRef := rfl
@[simp] theorem Qdg : QD [] = 0 := rfl
@[simp] theorem Qdf (v : V) (l : List V) : QD (v :: l) = max v.maxRef (QD l) := rfl
@[simp] theorem Qhk (O n i ver off : Nat) (x : V) (H : Qa) (cs : List V) : V1 O n i ver off x H (some (.var cs)) =
  if x.cells.length = n ∧ Qi x.cells = true ∧ (O ≤ i ∨ x.maxRef ≤ i + 1) ∧ ver = 0 ∧ off + n ≤ cs.length then some (.tup [],Qm H i (.var (splice cs off x.cells))) else none := rfl
@[simp] theorem Qhj (O n i ver off : Nat) (x : V) (H : Qa) (v sz : Nat) (ag : Bool) (cs : List V) : V1 O n i ver off x H (some (.row v sz ag cs)) =
  if x.cells.length = n ∧ Qi x.cells = true ∧ (O ≤ i ∨ x.maxRef ≤ i + 1) ∧ ver = v ∧ off + n ≤ cs.length then some (.tup [],Qm H i (.row v sz ag (splice cs off x.cells))) else none := rfl
@[simp] theorem Qhi (cs xs : List V) : splice cs 0 xs = xs ++ cs.drop xs.length := by simp [splice]
@[simp] theorem Qhh (c : V) (cs xs : List V) (off : Nat) : splice (c :: cs) (off + 1) xs = c :: splice cs off xs := by
 simp [splice,Nat.add_right_comm]
@[simp] theorem Qcv (H : Qa) (i : Nat) (x : Blk) : Qx (Qm H i x) H.length = Qm H i x := KZ (by simp)
@[simp] theorem Qam (n : Nat) : ((no_index (OfNat.ofNat n) : Nat) : Int) = (OfNat.ofNat n : Int) := rfl
theorem Za {a b : Nat} (h : a ≤ b) : (a ≤ b + 1) = True := by simp; omega
@[simp] theorem Qcu {b : Blk} {H : Qa} {n : Nat} (h : n ≤ H.length) : Qx (b :: H) n = Qx H n := PY h
@[simp] theorem Qcn {b : Blk} {H : Qa} {i : Nat} (h : i < H.length) : Qd (b :: H) i = Qd H i := JG b h
@[simp] theorem Qcr {b x : Blk} {H : Qa} {i : Nat} (h : i < H.length) : Qm (b :: H) i x = b :: Qm H i x := Gn (by omega)
@[simp] theorem Qco {H : Qa} {i : Nat} {x : Blk} (h : i < H.length) : Qd (Qm H i x) i = some x := Zx x h
@[simp] theorem Qcm {b : Blk} {H : Qa} {i : Nat} (h : i = H.length) : Qd (b :: H) i = some b := by subst h; simp
@[simp] theorem Qcq {b x : Blk} {H : Qa} {i : Nat} (h : i = H.length) : Qm (b :: H) i x = x :: H := by subst h; simp
@[simp] theorem Qcs {H : Qa} {i : Nat} {x y : Blk} : Qm (Qm H i x) i y = Qm H i y := NK
@[simp] theorem Qfy {H : Qa} {x : V} (h : Qi x.cells = true) : Z8 H x = some (.ptr H.length 0 0,.var x.cells :: H) := RU h
@[simp] theorem Qhl {n : Nat} {cs : List V} (h : n ≤ cs.length) : Q3 true n cs = some (.agg (cs.take n)) := F0 h
theorem wrap_i64 {x : Int} (h1 : -9223372036854775808 ≤ x) (h2 : x ≤ 9223372036854775807) : IntKind.i64.wrap x = x := by
 simp only [IntKind.wrap,IntKind.bits,IntKind.signed,Nat.reduceSub,Int.reducePow,Bool.true_and]
 split <;> rename_i h <;> simp at h <;> omega
@[simp] theorem Qfm (k : IntKind) (x y : Int) : BR [.int k x,.int k y] = some (.int k (if x < y then y else x)) := by rw [K5]; rfl
@[simp] theorem Qfn (k : IntKind) (x y : Int) : RH [.int k x,.int k y] = some (.int k (if y < x then y else x)) := by rw [Vj]; rfl
@[simp] theorem Qeq (z : List V) (pl : List (Nat × Nat)) : QT z pl [] = some (.agg z) := by rw [JL]; rfl
noncomputable def BB (z : List V) (pl : List (Nat × Nat)) (v : V) (ps : List (Nat × V)) : Option (Nat × Nat) → Option V
 | none => none
 | some (off,size) => if v.cells.length = size ∧ Qi v.cells = true ∧ off + size ≤ z.length then QT (splice z off v.cells) pl ps else none
@[simp] theorem Qep (z : List V) (pl : List (Nat × Nat)) (i : Nat) (v : V) (ps : List (Nat × V)) : QT z pl ((i,v) :: ps) = BB z pl v ps pl[i]? := by
 rw [JL]
 unfold VB BB
 simp only [Zs]
 cases pl[i]? with
 | none => rfl
 | some r =>
  obtain ⟨off,size⟩ := r
  simp only
  split
  ·rw [JL]; rfl
  ·rfl
@[simp] theorem Qai (z : List V) (pl : List (Nat × Nat)) (v : V) (ps : List (Nat × V)) (off size : Nat) : BB z pl v ps (some (off,size)) =
 if v.cells.length = size ∧ Qi v.cells = true ∧ off + size ≤ z.length then QT (splice z off v.cells) pl ps else none := rfl
@[simp] theorem Qex (off : Nat) (ag : Bool) (n : Nat) (cs : List V) : Ka off ag n (.agg cs) = if off + n ≤ cs.length then Q3 ag n (cs.drop off) else none := by rw [K6]; rfl
theorem MX (x : V) : flat [x] = x.cells := by simp [flat]
theorem EW {O sz by_ : Nat} {ag : Bool} {x : V} {H : Qa} (hx : x.cells.length = sz) (hs : Qi x.cells = true) (hz : 0 < sz) (hr : Z6 1 by_ = true) :
  Kj O sz by_ ag .nils (.vs [x]) H = some (.rs H.length 0 sz 0 1,.row 0 sz ag x.cells :: H) := by
 rw [Kb]
 simp [WI,QS,Q5,Yw,hx,MX,YY,hs,hz,hr]
theorem FE {O sz by_ : Nat} {ag : Bool} {x : V} {H : Qa} {i ver len : Nat} {cs : List V} (hg : Qd H i = some (.row ver sz ag cs)) (hl : cs.length = len * sz) (hx : x.cells.length = sz) (hs : Qi x.cells = true) (hz : 0 < sz)
  (hf : O ≤ i ∨ QD x.cells ≤ i + 1) (hr : Z6 (len + 1) by_ = true) :
  Kj O sz by_ ag (.rs i ver sz 0 len) (.vs [x]) H = some (.rs i (ver + 1) sz 0 (len + 1),Qm H i (.row (ver + 1) sz ag (cs ++ x.cells))) := by
 have hf' : fits O i (QD x.cells) = true := by simpa [fits] using hf
 have h1 : ¬ (len + 1) * sz ≤ cs.length := by
  rw [hl,Nat.add_mul]; omega
 rw [Kb]
 simp [WI,QS,Q5,Yw,hx,MX,YY,hs,hz,hr,hg,hf',hl]
 rw [if_neg (by rw [Nat.add_mul]; omega)]
 simp [List.take_of_length_le (Nat.le_of_eq hl)]
theorem UB {sz : Nat} {z x : V} (hx : x.cells.length = sz) (hs : Qi x.cells = true) (hn : x.nrm = x) (hc : x.clean = true) : QQ sz 1 z [(0,x)] = some (.vs [x]) := by
 rw [Jc]
 simp [KR,Jr,hx,hs,hn,hc,Ys]
@[simp] theorem Qfi (z : V) (k : IntKind) (n : Int) : QQ 1 1 z [(0,.int k n)] = some (.vs [.int k n]) := UB rfl rfl rfl rfl
@[simp] theorem Qfj (z : V) (s : List UInt8) : QQ 1 1 z [(0,.str s)] = some (.vs [.str s]) := UB rfl rfl rfl rfl
theorem FC {sz : Nat} {ag : Bool} {z : List V} {x : V} {H : Qa} (hz : z.length = sz) (hx : x.cells.length = sz) (hs : Qi x.cells = true) (h0 : 0 < sz) : UW 1 sz ag z H [(0,x)] = some (.rs H.length 0 sz 0 1,.row 0 sz ag x.cells :: H) := by
 rw [W5]
 have : splice z 0 x.cells = x.cells := by simp [splice,hx,← hz]
 simp [VJ,Zs,hx,hs,hz,rowOf,h0,splice]
 simp [← hz]; exact hs
theorem L6 {sz : Nat} {xs : List V} {k : IntKind} {j : Nat} {y : V} (h : xs[j]? = some y) (hy : y.cells.length = sz) : Z4 sz (.vs xs) (.int k j) = some (.fptr y.cells) := by
 rw [Vh]; simp [UY,Q1,Jz,h,hy]
@[simp] theorem Qfl (H : Qa) : Vw H = some (.mapr H.length,.map [] :: H) := by rw [WQ]; rfl
@[simp] theorem Qgb (k : IntKind) (n : Int) : Zd 0 (.int k n) = true := rfl
@[simp] theorem Qgc (s : List UInt8) : Zd 1 (.str s) = true := rfl
@[simp] theorem Qga (b : Bool) : Zd 2 (.bool b) = true := rfl
@[simp] theorem Qbu (k : V) (i : Nat) : QW k [] i = some none := rfl
@[simp] theorem Qbt (kk : IntKind) (a b : Int) (v : V) (es : List (V × V)) (i : Nat) : QW (.int kk a) ((.int kk b,v) :: es) i = if a = b then some (some (i,v)) else QW (.int kk a) es (i + 1) := by
 simp only [QW,sameKey,if_true]
 by_cases h : a = b
 ·subst h; simp
 ·have : (a == b) = false := by simpa using h
  simp [h,this]
@[simp] theorem Qbv (a b : List UInt8) (v : V) (es : List (V × V)) (i : Nat) : QW (.str a) ((.str b,v) :: es) i = if a = b then some (some (i,v)) else QW (.str a) es (i + 1) := by
 simp only [QW,sameKey]
 by_cases h : a = b
 ·subst h; simp
 ·have : (a == b) = false := by simpa using h
  simp [h,this]
def RD (O kk i : Nat) (k x : V) (H : Qa) : Option Blk → Option (V × Qa)
 | some (.map es) => if Zd kk k = true ∧ (O ≤ i ∨ x.maxRef ≤ i + 1) then (QW k es 0).map fun r => match r with
   | some (j,_) => (.tup [],Qm H i (.map (es.set j (k,x))))
   | none => (.tup [],Qm H i (.map (es ++ [(k,x)])))
  else none
 | _ => none
theorem Pl (O kk : Nat) (H : Qa) (i : Nat) (k x : V) : JA O kk H (.mapr i) k x = RD O kk i k x H (Qd H i) := by
 rw [Vm]
 unfold Kt RD
 cases hk : Zd kk k with
 | false =>
  simp only
  cases Qd H i with
  | none => rfl
  | some b => cases b <;> simp
 | true =>
  simp only
  cases Qd H i with
  | none => rfl
  | some b =>
   cases b with
   | map es =>
    simp only
    by_cases h2 : O ≤ i ∨ x.maxRef ≤ i + 1
    ·have hb : fits O i x.maxRef = true := by simpa [fits] using h2
     simp only [hb,h2]; simp
     cases QW k es 0 with
     | none => rfl
     | some r => cases r <;> rfl
    ·have hb : fits O i x.maxRef = false := by simpa [fits] using h2
     simp [hb,h2]
   | _ => rfl
@[simp] theorem Qhn (O kk i : Nat) (k x : V) (H : Qa) (es : List (V × V)) : RD O kk i k x H (some (.map es)) = if Zd kk k = true ∧ (O ≤ i ∨ x.maxRef ≤ i + 1) then (QW k es 0).map fun r => match r with
   | some (j,_) => (.tup [],Qm H i (.map (es.set j (k,x))))
   | none => (.tup [],Qm H i (.map (es ++ [(k,x)])))
  else none := rfl
def Rt (kk : Nat) (z k : V) : Option Blk → Option V
 | some (.map es) => if Zd kk k = true then (QW k es 0).bind fun r => match r with
   | some (_,v) => some v
   | none => some z
  else none
 | _ => none
theorem Pj (kk : Nat) (z : V) (H : Qa) (i : Nat) (k : V) : Kl kk z H (.mapr i) k = Rt kk z k (Qd H i) := by
 rw [WF]
 unfold KU Rt mapOf
 cases hk : Zd kk k with
 | false => cases Qd H i with
  | none => rfl
  | some b => cases b <;> simp
 | true =>
  simp only
  cases Qd H i with
  | none => rfl
  | some b =>
   cases b with
   | map es => simp; cases QW k es 0 with
    | none => rfl
    | some r => cases r <;> rfl
   | _ => rfl
def rtF (O : Nat) (v : V) (H : Qa) : Option V → Option (Out × Qa)
 | some v' => if v'.maxRef ≤ O then some (.ret v',Qx H O) else some (.ret v,H)
 | none => if v.maxRef ≤ O then some (.ret v,Qx H O) else some (.ret v,H)
theorem Vg (O : Nat) (v : V) (H : Qa) : rt false O v H = rtF O v H (frz H O depth v) := by
 rw [BF]
 unfold Wu Zl rtF
 simp only [Bool.false_eq_true,if_false]
 cases frz H O depth v with
 | none => simp only; split <;> rfl
 | some v' => simp only; split <;> rfl
@[simp] theorem Qge (O : Nat) (cs : List V) (H : Qa) : rt false O (.agg cs) H = rtF O (.agg cs) H (frz H O depth (.agg cs)) := Vg _ _ _
@[simp] theorem Qgm (O : Nat) (v : V) (cs : List V) (H : Qa) : rt false O (.tup (v :: cs)) H = rtF O (.tup (v :: cs)) H (frz H O depth (.tup (v :: cs))) := Vg _ _ _
@[simp] theorem Qgk (O a b c d e : Nat) (H : Qa) : rt false O (.rs a b c d e) H = rtF O (.rs a b c d e) H (frz H O depth (.rs a b c d e)) := Vg _ _ _
@[simp] theorem Qgg (O : Nat) (t : TypeId) (v : V) (H : Qa) : rt false O (.iface t v) H = rtF O (.iface t v) H (frz H O depth (.iface t v)) := Vg _ _ _
@[simp] theorem Qgo (O : Nat) (l : List V) (H : Qa) : rt false O (.vs l) H = some (.ret (.vs l),Qx H O) := YH rfl (Nat.zero_le _)
@[simp] theorem Qgj (O : Nat) (H : Qa) : rt false O .nils H = some (.ret (.vs []),Qx H O) := YH rfl (Nat.zero_le _)
@[simp] theorem Qgd (O : Nat) (v v' : V) (H : Qa) : rtF O v H (some v') = if v'.maxRef ≤ O then some (.ret v',Qx H O) else some (.ret v,H) := rfl
@[simp] theorem Qbf : depth = 11 + 1 := rfl
def V.plain : V → Bool
 | .nils | .rs _ _ _ _ _ | .agg _ | .tup _ | .iface _ _ => false
 | _ => true
theorem Gg {H : Qa} {O n : Nat} {v : V} (h : v.plain = true) : frz H O (n + 1) v = some v := by
 cases v <;> first | rfl | simp [V.plain] at h
section
variable (H : Qa) (O n : Nat)
@[simp] theorem Qbx (b : Bool) : frz H O (n + 1) (.bool b) = some (.bool b) := rfl
@[simp] theorem Qca (k : IntKind) (x : Int) : frz H O (n + 1) (.int k x) = some (.int k x) := rfl
@[simp] theorem Qcf (s : List UInt8) : frz H O (n + 1) (.str s) = some (.str s) := rfl
@[simp] theorem Qch (l : List V) : frz H O (n + 1) (.vs l) = some (.vs l) := rfl
@[simp] theorem Qcd : frz H O (n + 1) .nils = some (.vs []) := rfl
@[simp] theorem Qcc : frz H O (n + 1) .nilptr = some .nilptr := rfl
@[simp] theorem Qcb : frz H O (n + 1) .niface = some .niface := rfl
@[simp] theorem Qce (a b c : Nat) : frz H O (n + 1) (.ptr a b c) = some (.ptr a b c) := rfl
@[simp] theorem Qby (f : FuncId) (l : List V) : frz H O (n + 1) (.fn f l) = some (.fn f l) := rfl
@[simp] theorem Qbw (cs : List V) : frz H O (n + 1) (.agg cs) = (Q0 (frz H O n) cs).map .agg := rfl
@[simp] theorem Qcg (cs : List V) : frz H O (n + 1) (.tup cs) = (Q0 (frz H O n) cs).map .tup := rfl
@[simp] theorem Qbz (t : TypeId) (v : V) : frz H O (n + 1) (.iface t v) = (frz H O n v).map (.iface t) := rfl
end
@[simp] theorem Qde (f : V → Option V) : Q0 f [] = some [] := rfl
@[simp] theorem Qdd (f : V → Option V) (v : V) (l : List V) : Q0 f (v :: l) = (f v).bind fun y => (Q0 f l).map fun ys => y :: ys := rfl
theorem LG {f : V → Option V} : ∀ {l : List V},(∀ v ∈ l,f v = some v) → Q0 f l = some l
 | [],_ => rfl
 | v :: l,h => by rw [Q0,h v (List.mem_cons_self ..),LG fun u hu => h u (List.mem_cons_of_mem _ hu)]; rfl
theorem Lf {sz : Nat} : ∀ {l : List V},(∀ v ∈ l,∃ cs,v = .agg cs ∧ cs.length = sz) → chunk sz true l.length (flat l) = l
 | [],_ => rfl
 | v :: l,h => by
  obtain ⟨cs,rfl,hc⟩ := h v (List.mem_cons_self ..)
  simp only [List.length_cons,chunk,flat,Qao,if_true]
  rw [List.take_left' hc,List.drop_left' hc,Lf fun u hu => h u (List.mem_cons_of_mem _ hu)]
end Go.Ev
end
section
namespace Go.Ev
theorem FO (s : List UInt8) : Q2 s = s.map fun b => V.int .u8 b.toNat := by
 induction s with
 | nil => rfl
 | cons b s ih => rw [Q2,ih]; rfl
@[simp] theorem Qak (s : List UInt8) : (Q2 s).length = s.length := by simp [FO]
@[simp] theorem Qal (s : List UInt8) : Qi (Q2 s) = true := by
 induction s with
 | nil => rfl
 | cons b s ih => simp only [Q2,Qi,ih]; rfl
@[simp] theorem Qaj (s : List UInt8) : bytesOf (Q2 s) = some s := by
 induction s with
 | nil => rfl
 | cons b s ih => simp [Q2,bytesOf,ih]
@[simp] theorem Qer (s : List UInt8) (H : Qa) : B5 (.str s) H = some (.rs H.length 0 1 0 s.length,.row 0 1 false (Q2 s) :: H) := by
 rw [WV]; simp [WJ,rowOf]
structure EncOK {α : Type} (f : α → V) (sz : Nat) : Prop where
 pos : 0 < sz
 agg : ∀ a,∃ cs,f a = .agg cs ∧ cs.length = sz ∧ Qi cs = true ∧ Qw cs = true ∧ (∀ c ∈ cs,c.plain = true) ∧ Kc cs = cs
theorem MB : ∀ {cs : List V},Qw cs = true → (∀ c ∈ cs,c.plain = true) → QD cs = 0 := by
 have key : ∀ v : V,v.clean = true → v.maxRef = 0 := fun v h => WC h
 intro cs
 induction cs with
 | nil => intro _ _; rfl
 | cons v cs ih =>
  intro h1 h2
  simp only [Qw,Bool.and_eq_true] at h1
  simp [key v h1.1,ih h1.2 (fun c hc => h2 c (List.mem_cons_of_mem _ hc))]
section
variable {α : Type} {f : α → V} {sz : Nat} (h : EncOK f sz)
include h
theorem EncOK.cells (a : α) : (f a).cells.length = sz := by obtain ⟨cs,e,h1,_⟩ := h.agg a; rw [e]; exact h1
theorem EncOK.scal (a : α) : Qi (f a).cells = true := by obtain ⟨cs,e,_,h1,_⟩ := h.agg a; rw [e]; exact h1
theorem EncOK.clean (a : α) : (f a).clean = true := by obtain ⟨cs,e,_,_,h1,_⟩ := h.agg a; rw [e]; exact h1
theorem EncOK.aggc (a : α) : V.agg (f a).cells = f a := by obtain ⟨cs,e,_⟩ := h.agg a; rw [e]; rfl
theorem EncOK.take (a : α) : V.agg (List.take sz (f a).cells) = f a := by rw [List.take_of_length_le (by rw [h.cells]; exact Nat.le_refl _),h.aggc]
theorem EncOK.nrm (a : α) : (f a).nrm = f a := by obtain ⟨cs,e,_,_,_,_,h1⟩ := h.agg a; rw [e]; simp [V.nrm,h1]
theorem EncOK.mr (a : α) : (f a).maxRef = 0 := by obtain ⟨cs,e,_,_,h1,h2,_⟩ := h.agg a; rw [e]; exact MB h1 h2
theorem EncOK.mrc (a : α) : QD (f a).cells = 0 := by obtain ⟨cs,e,_,_,h1,h2,_⟩ := h.agg a; rw [e]; exact MB h1 h2
theorem EncOK.frz (H : Qa) (O n : Nat) (a : α) : frz H O (n + 1 + 1) (f a) = some (f a) := by
 obtain ⟨cs,e,_,_,_,h2,_⟩ := h.agg a
 rw [e,Qbw,LG (fun c hc => Gg (h2 c hc))]; rfl
theorem EncOK.rt (O : Nat) (a : α) (H : Qa) : rt false O (f a) H = some (.ret (f a),Qx H O) := YH (h.frz H O 10 a) (by rw [h.mr]; exact Nat.zero_le _)
theorem EncOK.lit (z : V) (a : α) : QQ sz 1 z [(0,f a)] = some (.vs [f a]) := UB (h.cells a) (h.scal a) (h.nrm a) (h.clean a)
end
def Zt {α : Type} (f : α → V) (l : List α) : List V := flat (l.map f)
theorem P5 {α : Type} (f : α → V) (l m : List α) : Zt f (l ++ m) = Zt f l ++ Zt f m := by
 induction l with
 | nil => rfl
 | cons e l ih => simp only [List.cons_append,Zt,List.map_cons,flat] at ih ⊢; rw [ih]; simp
theorem R2 {α : Type} (f : α → V) (a : α) : Zt f [a] = (f a).cells := by simp [Zt,flat]
theorem Dd {α : Type} (f : α → V) (a : α) (l : List α) : Zt f (a :: l) = (f a).cells ++ Zt f l := rfl
section
variable {α : Type} {f : α → V} {sz : Nat} (h : EncOK f sz)
include h
theorem EncOK.cellsF_length (l : List α) : (Zt f l).length = l.length * sz := by
 induction l with
 | nil => simp [Zt,flat]
 | cons e l ih => rw [Dd,List.length_append,h.cells,ih,List.length_cons,Nat.add_mul]; omega
theorem EncOK.chunk (l : List α) : chunk sz true l.length (Zt f l) = l.map f := by
 have := Lf (sz := sz) (l := l.map f) (fun v hv => by
  obtain ⟨e,_,rfl⟩ := List.mem_map.1 hv
  obtain ⟨cs,e',h1,_⟩ := h.agg e
  exact ⟨cs,e',h1⟩)
 rw [List.length_map] at this
 exact this
theorem EncOK.append {O by_ i ver : Nat} {H : Qa} {l : List α} {a : α} {n : Nat} (hg : Qd H i = some (.row ver sz true (Zt f l))) (hn : n = l.length) (hr : Z6 (l.length + 1) by_ = true) :
  Kj O sz by_ true (.rs i ver sz 0 n) (.vs [f a]) H = some (.rs i (ver + 1) sz 0 (n + 1),Qm H i (.row (ver + 1) sz true (Zt f (l ++ [a])))) := by
 subst hn
 rw [FE hg (h.cellsF_length l) (h.cells a) (h.scal a) h.pos (.inr (by rw [h.mrc]; omega)) hr,P5,R2]
theorem EncOK.append_nil {O by_ : Nat} {H : Qa} {a : α} (hr : Z6 1 by_ = true) : Kj O sz by_ true .nils (.vs [f a]) H = some (.rs H.length 0 sz 0 1,.row 0 sz true (Zt f [a]) :: H) := by
 rw [EW (h.cells a) (h.scal a) h.pos hr,R2]
theorem EncOK.row {z : List V} {a : α} {H : Qa} (hz : z.length = sz) : UW 1 sz true z H [(0,f a)] = some (.rs H.length 0 sz 0 1,.row 0 sz true (Zt f [a]) :: H) := by
 rw [FC hz (h.cells a) (h.scal a) h.pos,R2]
end
@[simp] theorem Qcw (a : Blk) (H : Qa) : Qx (a :: H) (H.length + 1) = a :: H := KZ (by simp)
@[simp] theorem Qcx (a b : Blk) (H : Qa) : Qx (a :: b :: H) (H.length + 1 + 1) = a :: b :: H := KZ (by simp)
@[simp] theorem Qcy (a b c : Blk) (H : Qa) : Qx (a :: b :: c :: H) (H.length + 1 + 1 + 1) = a :: b :: c :: H := KZ (by simp)
@[simp] theorem Qcz (a b c d : Blk) (H : Qa) : Qx (a :: b :: c :: d :: H) (H.length + 1 + 1 + 1 + 1) = a :: b :: c :: d :: H := KZ (by simp)
end Go.Ev
end
section
namespace Go.Ev
section
variable {α : Type}
theorem Dl {n : Int} (h : (Lit.int .u8 n).wf = true) : 0 ≤ n ∧ n ≤ 255 := by simpa [Lit.wf,IntKind.min,IntKind.max,IntKind.signed,IntKind.bits] using h
end
end Go.Ev
end
section
namespace Go.Rd
inductive Expr where
 | mk (kind : Int) (text : List UInt8) (n : List Int) (min max : Int) (kids : List Expr)
 deriving Inhabited
def Expr.zero : Expr := .mk 0 [] [] 0 0 []
structure Line where
 name : List UInt8
 more : Bool
 expr : Expr
inductive Res (α : Type) where
 | ok (a : α) (s : List UInt8)
 | err (e : Int) (s : List UInt8)
def Res.bind {α β : Type} : Res α → (α → List UInt8 → Res β) → Res β
 | .ok a s,f => f a s
 | .err e s,_ => .err e s
def W8 (c : UInt8) : Bool := c.toNat == 32 || c.toNat == 9
def Ud (c : UInt8) : Bool := (decide (97 ≤ c.toNat) && decide (c.toNat ≤ 122)) || (decide (65 ≤ c.toNat) && decide (c.toNat ≤ 90))
def BA (c : UInt8) : Bool := decide (48 ≤ c.toNat) && decide (c.toNat ≤ 57)
def FL (c : UInt8) : Bool := W8 c || (decide (32 < c.toNat) && decide (c.toNat ≤ 126))
def UR (c : UInt8) : Bool := Ud c || BA c || c.toNat == 45
def VA (c : UInt8) : Bool := decide (32 ≤ c.toNat) && decide (c.toNat ≤ 126) && !(c.toNat == 34)
def PE (c : UInt8) : UInt8 := if 65 ≤ c.toNat ∧ c.toNat ≤ 90 then UInt8.ofNat (c.toNat + 32) else c
def small (s : List UInt8) : List UInt8 := s.map PE
def Zh (s : List UInt8) (c : Nat) : Bool :=
 match s with
 | [] => false
 | a :: _ => a.toNat == c
def PV (s : List UInt8) : List UInt8 := if Zh s 59 then (s.drop 1).dropWhile FL else s
def Ra (s : List UInt8) : Option Nat :=
 let rest := PV s
 let comment := s.length - rest.length
 match rest with
 | [] => some comment
 | a :: r => if a.toNat = 10 then some (comment + 1) else if a.toNat = 13 ∧ Zh r 10 then some (comment + 2) else none
def BG : Nat → List UInt8 → List UInt8
 | 0,s => s
 | n + 1,s => match s with
  | [] => []
  | c :: r => if W8 c then BG n r else match Ra (c :: r) with
   | none => c :: r
   | some k => if k = 0 then c :: r else match (c :: r).drop k with
    | [] => c :: r
    | d :: r' => if W8 d then BG n (d :: r') else c :: r
def room (s : List UInt8) : List UInt8 := BG s.length s
def name (s : List UInt8) : Res (List UInt8) :=
 match s with
 | [] => .err 20 []
 | c :: r => if Ud c then (if ((c :: r).takeWhile UR).length ≤ 40 then .ok (small ((c :: r).takeWhile UR)) ((c :: r).dropWhile UR) else .err 2 ((c :: r).dropWhile UR)) else .err 20 (c :: r)
def digit (c : UInt8) : Nat :=
 if BA c then c.toNat - 48 else if 97 ≤ c.toNat ∧ c.toNat ≤ 102 then c.toNat - 87 else if 65 ≤ c.toNat ∧ c.toNat ≤ 70 then c.toNat - 55 else 99
def Lu (O most : Nat) : Nat → Bool → List UInt8 → Res (Nat × Bool)
 | n,ok,[] => .ok (n,ok) []
 | n,ok,c :: r => if digit c < O then (if n * O + digit c ≤ most then Lu O most (n * O + digit c) true r else .err 2 (c :: r)) else .ok (n,ok) (c :: r)
def number (O most : Nat) (s : List UInt8) : Res (Nat × Bool) := Lu O most 0 false s
def quoted (s : List UInt8) : Res (List UInt8) :=
 if Zh ((s.drop 1).dropWhile VA) 34 then .ok ((s.drop 1).takeWhile VA) (((s.drop 1).dropWhile VA).drop 1) else .err 20 ((s.drop 1).dropWhile VA)
def fold (s : List UInt8) : Expr := .mk 5 (small s) [] 0 0 []
def exact (s : List UInt8) : Expr :=
 if s = [] then fold s else .mk 6 [] (s.map fun c => (c.toNat : Int)) 0 0 []
def value (O : Nat) (s : List UInt8) : Res Nat :=
 (number O 1114111 s).bind fun r s' => if r.2 then .ok r.1 s' else .err 20 s'
def MZ (O : Nat) : Nat → List Int → List UInt8 → Res Expr
 | 0,l,s => .ok (.mk 6 [] l 0 0 []) s
 | n + 1,l,s => if Zh s 46 then (value O (s.drop 1)).bind fun v s' => MZ O n (l ++ [(v : Int)]) s' else .ok (.mk 6 [] l 0 0 []) s
def values (O : Nat) (s : List UInt8) : Res Expr :=
 (value O s).bind fun a s1 => if Zh s1 45 then (value O (s1.drop 1)).bind fun b s2 => if a ≤ b then .ok (.mk 7 [] [(a : Int),(b : Int)] 0 0 []) s2 else .err 20 s2
  else MZ O s1.length [(a : Int)] s1
def RI (k : Nat) : Nat := if k = 98 then 2 else if k = 100 then 10 else if k = 120 then 16 else 0
def FT (s : List UInt8) : Res Expr :=
 match s.drop 1 with
 | [] => .err 20 []
 | c :: r =>
  let k := c.toNat ||| 32
  if Ud c ∧ (0 < RI k ∨ Zh r 34 ∧ (k = 105 ∨ k = 115)) then
   (if 0 < RI k then values (RI k) r else if k = 105 then (quoted r).bind fun t s' => .ok (fold t) s' else (quoted r).bind fun t s' => .ok (exact t) s')
  else .err 20 (c :: r)
section
variable (ways : List UInt8 → Res Expr)
def Pw (fin : Nat) (s : List UInt8) : Res Expr :=
 (ways (room (s.drop 1))).bind fun e s1 => if Zh (room s1) fin then .ok e ((room s1).drop 1) else .err 20 (room s1)
def My (grp : Nat → List UInt8 → Res Expr) (s : List UInt8) : Res Expr :=
 if Zh s 40 then grp 41 s
 else if Zh s 91 then (grp 93 s).bind fun e s' => .ok (.mk 3 [] [] 0 1 [e]) s'
 else if Zh s 34 then (quoted s).bind fun t s' => .ok (fold t) s'
 else if Zh s 37 then FT s
 else (name s).bind fun t s' => .ok (.mk 4 t [] 0 0 []) s'
end
section
variable (element : List UInt8 → Res Expr)
def LD (s : List UInt8) : Res Expr :=
 (number 10 200 s).bind fun l s1 =>
  (if Zh s1 42 then number 10 200 (s1.drop 1) else .ok l s1).bind fun h s2 =>
   (element s2).bind fun e s3 =>
    if !l.2 && !Zh s1 42 then .ok e s3
    else if h.2 then (if l.1 ≤ h.1 then .ok (.mk 3 [] [] l.1 h.1 [e]) s3 else .err 20 s3)
    else .ok (.mk 3 [] [] l.1 (-1) [e]) s3
end
def begins (s : List UInt8) : Bool :=
 match s with
 | [] => false
 | c :: _ => Ud c || BA c || c.toNat == 34 || c.toNat == 37 || c.toNat == 40 || c.toNat == 42 || c.toNat == 91
def some_ (kind : Int) (l : List Expr) : Expr :=
 match l with
 | [e] => e
 | _ => .mk kind [] [] 0 0 l
section
variable (rep : List UInt8 → Res Expr)
def NP : Nat → List Expr → List UInt8 → Res Expr
 | 0,l,s => .ok (some_ 2 l) s
 | n + 1,l,s => if decide ((room s).length < s.length) && begins (room s) then (rep (room s)).bind fun e s' => NP n (l ++ [e]) s' else .ok (some_ 2 l) s
def row (s : List UInt8) : Res Expr := (rep s).bind fun e s' => NP rep s'.length [e] s'
end
section
variable (row : List UInt8 → Res Expr)
def NZ : Nat → List Expr → List UInt8 → Res Expr
 | 0,l,s => .ok (some_ 1 l) s
 | n + 1,l,s => if Zh (room s) 47 then (row (room ((room s).drop 1))).bind fun e s' => NZ n (l ++ [e]) s' else .ok (some_ 1 l) s
def LF (s : List UInt8) : Res Expr := (row s).bind fun e s' => NZ row s'.length [e] s'
end
def ways : Nat → List UInt8 → Res Expr
 | 0 => LF (row (LD (My fun _ s => .err 2 (s.drop 1))))
 | k + 1 => LF (row (LD (My (Pw (ways k)))))
def EL (s : List UInt8) : Res Line :=
 (name s).bind fun n s1 =>
  if Zh (room s1) 61 then
   let s2 := (room s1).drop 1
   let more := Zh s2 47
   let s3 := if more then s2.drop 1 else s2
   (ways 50 (room s3)).bind fun e s4 => match Ra (room s4) with
    | some k => .ok ⟨n,more,e⟩ ((room s4).drop k)
    | none => .err 20 (room s4)
  else .err 20 (room s1)
def Bi : Nat → List Line → List UInt8 → Res (List Line)
 | 0,l,s => .ok l s
 | n + 1,l,s => match s with
  | [] => .ok l []
  | c :: r => match Ra ((c :: r).dropWhile W8) with
   | some k => Bi n l (((c :: r).dropWhile W8).drop k)
   | none => (EL (c :: r)).bind fun x s' => if l.length + 1 ≤ 500 then Bi n (l ++ [x]) s' else .err 2 s'
def read (s : List UInt8) : List Line × Int :=
 if 50000 < s.length then ([],2) else match Bi s.length [] s with
  | .ok l _ => (l,0)
  | .err e _ => ([],e)
end Go.Rd
end
section
namespace Go.Rd
def Res.le {α : Type} (n : Nat) : Res α → Prop
 | .ok _ s => s.length ≤ n
 | .err _ _ => True
end Go.Rd
end
section
namespace Go.Ev
def encI (l : List Int) : V := .vs (l.map (V.int .i64))
@[simp] theorem Qbq (l : List Int) : (encI l).cells = [encI l] := rfl
@[simp] theorem Qbs (l : List Int) : (encI l).scal = true := rfl
@[simp] theorem Qbr (l : List Int) : (encI l).maxRef = 0 := rfl
mutual
def QX : Rd.Expr → V
 | .mk k t n lo hi ks => .agg [.int .i64 k,.str t,encI n,.int .i64 lo,.int .i64 hi,.vs (J2 ks)]
def J2 : List Rd.Expr → List V
 | [] => []
 | e :: l => QX e :: J2 l
end
@[simp] theorem Qbh (e : Rd.Expr) : (QX e).cells.length = 6 := by cases e; rfl
@[simp] theorem Qbn (e : Rd.Expr) : Qi (QX e).cells = true := by cases e; rfl
@[simp] theorem Qbk (e : Rd.Expr) : (QX e).maxRef = 0 := by cases e; rfl
@[simp] theorem Qbo (e : Rd.Expr) : V.agg (List.take 6 (QX e).cells) = QX e := by cases e; rfl
@[simp] theorem Qbg (e : Rd.Expr) : V.agg (QX e).cells = QX e := by cases e; rfl
@[simp] theorem Qbl (e : Rd.Expr) : QD (QX e).cells = 0 := by cases e; rfl
@[simp] theorem Qbp (e : Rd.Expr) : List.take 6 (QX e).cells = (QX e).cells := List.take_of_length_le (by simp)
@[simp] theorem Qbi (e : Rd.Expr) : List.drop 6 (QX e).cells = [] := List.drop_of_length_le (by simp)
@[simp] theorem Qbj (H : Qa) (O n : Nat) (e : Rd.Expr) : Q0 (frz H O (n + 1)) (QX e).cells = some (QX e).cells := by cases e; rfl
theorem Pr (H : Qa) (O n : Nat) (e : Rd.Expr) : frz H O (n + 1 + 1) (QX e) = some (QX e) := by cases e; rfl
@[simp] theorem Qbm (O : Nat) (e : Rd.Expr) (H : Qa) : rt false O (QX e) H = some (.ret (QX e),Qx H O) := YH (Pr H O 10 e) (by simp)
theorem Dm (l : List Int) : (encI l).clean = true := by
 show Qw _ = true
 induction l with
 | nil => rfl
 | cons a l ih => exact ih
mutual
theorem Nx : ∀ e : Rd.Expr,(QX e).clean = true
 | .mk k t n lo hi ks => by
  simp only [QX,V.clean,Qw,Dm,Nw ks,Bool.and_self]
theorem Nw : ∀ l : List Rd.Expr,Qw (J2 l) = true
 | [] => rfl
 | e :: l => by rw [J2,Qw,Nx e,Nw l]; rfl
end
theorem F3 (e : Rd.Expr) : (QX e).nrm = QX e := by cases e; rfl
@[simp] theorem Qfh (z : V) (e : Rd.Expr) : QQ 6 1 z [(0,QX e)] = some (.vs [QX e]) := UB (by simp) (by simp) (F3 e) (Nx e)
def LX (l : List Rd.Expr) : List V := flat (J2 l)
@[simp] theorem Qan (l : List Rd.Expr) : (LX l).length = l.length * 6 := by
 induction l with
 | nil => rfl
 | cons e l ih => simp only [LX,J2,flat,List.length_append,Qbh,List.length_cons] at ih ⊢; omega
end Go.Ev
end
