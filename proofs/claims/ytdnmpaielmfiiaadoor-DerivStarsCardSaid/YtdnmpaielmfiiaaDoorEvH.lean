/- EvH: a part of the proof that each law of this seat answers true at every input. No condition. -/
import Derived.Test.YtdnmpaielmfiiaaDoorEvF
import Derived.Test.YtdnmpaielmfiiaaDoorEvGb
import Derived.DataReads
import Derived.ChangeArms
set_option linter.unusedVariables false
set_option linter.unusedSimpArgs false
section
namespace Go.Ev
variable {α : Type} {β : Type}
@[congr] theorem Qq7 {x x' : Option V} {f : V → Option α} (h : x = x') : bnd x f = bnd x' f := by rw [h]
@[congr] theorem Qra {x x' : Option (V × Qa)} {f : V → Qa → Option α} (h : x = x') : beff x f = beff x' f := by rw [h]
@[congr] theorem Qq8 {x x' : Option (Out × Qa)} {f g : V → Qa → Option α} (h : x = x') : bcall x f g = bcall x' f g := by rw [h]
@[congr] theorem Qrc {v v' : V} {a b : Option α} (h : v = v') : cnd v a b = cnd v' a b := by rw [h]
@[congr] theorem Qq5 {b b' : Bool} {a : Option α} (h : b = b') : sch b a = sch b' a := by rw [h]
@[simp] theorem Qah (v : V) (f : V → Option α) : bnd (some v) f = f v := by rw [Jm]; rfl
@[simp] theorem Qag (v : V) (H : Qa) (f : V → Qa → Option α) : beff (some (v,H)) f = f v H := by rw [VJ]; rfl
@[simp] theorem Qab (v : V) (H : Qa) (f g : V → Qa → Option α) : bcall (some (.ret v,H)) f g = f v H := by rw [UN]; rfl
@[simp] theorem Qaa (v : V) (H : Qa) (f g : V → Qa → Option α) : bcall (some (.pan v,H)) f g = g v H := by rw [UN]; rfl
@[simp] theorem Qac (r : FuncId × List V) (f : FuncId × List V → Option α) : bdef (some r) f = f r := by rw [N2]; rfl
@[simp] theorem Qad (b : Bool) (H : Qa) (f : Qa → Option α) : bdn (some (b,H)) f = f H := by rw [QhC]; rfl
@[simp] theorem Qaf (H : Qa) (f g : Qa → Option α) : bdp (some (true,H)) f g = f H := by rw [EP]; rfl
@[simp] theorem Qae (H : Qa) (f g : Qa → Option α) : bdp (some (false,H)) f g = g H := by rw [EP]; rfl
@[simp] theorem Qbd (a b : Option α) : cnd (.bool true) a b = a := by rw [VZ]; rfl
@[simp] theorem Qbc (a b : Option α) : cnd (.bool false) a b = b := by rw [VZ]; rfl
@[simp] theorem Qci (w : Bool) (a b : Option β) : gua (.bool w) w a b = a := by rw [VG]; simp [KO]
@[simp] theorem Qcg (a b : Option β) : gua (.bool true) false a b = b := by rw [VG]; simp [KO]
@[simp] theorem Qcf (a b : Option β) : gua (.bool false) true a b = b := by rw [VG]; simp [KO]
@[simp] theorem Qch (vs : List V) (w : Bool) (a b : Option β) : gua (.tup vs) w a b = b := by rw [VG]; rfl
@[simp] theorem Qhd (a : Option α) : sch true a = a := by rw [BO]; rfl
mutual
theorem V.beq_self : ∀ v : V,V.beq v v = true
 | .junk | .nilptr | .nils | .emp | .nilfn | .niface | .nilmap => rfl
 | .bool _ | .str _ | .ptr _ _ _ | .rs _ _ _ _ _ | .mapr _ => by simp [V.beq]
 | .int k n => by cases k <;> simp [V.beq]
 | .fptr a | .vs a | .agg a | .tup a => by rw [V.beq]; exact Cg a
 | .fn _ a => by rw [V.beq,Cg a]; simp
 | .iface _ a => by rw [V.beq,V.beq_self a]; simp
theorem Cg : ∀ l : List V,Yy l l = true
 | [] => rfl
 | v :: l => by rw [Yy,V.beq_self v,Cg l]; rfl
end
@[simp] theorem Qgm (v : V) : sam (some v) v = true := by rw [Cx]; exact V.beq_self v
@[simp] theorem Qfm (x : V) : QL x = some x := by rw [R6]; rfl
@[simp] theorem Qew (t : TypeId) (x : V) : Dj t x = some (.iface t x) := by rw [ML]; rfl
@[simp] theorem Qfl (f : FuncId) (l : List V) : Gz f l = some (.fn f l) := by rw [RU]; rfl
@[simp] theorem Qfr (a b : V) : QY (.bool true) a b = some a := by rw [B6]; rfl
@[simp] theorem Qfq (a b : V) : QY (.bool false) a b = some b := by rw [B6]; rfl
@[simp] theorem Qfo (i v o : Nat) : Kg (.ptr i v o) = some (.ptr i v o) := by rw [Bb]; rfl
@[simp] theorem Qfn (cs : List V) : Kg (.fptr cs) = some (.fptr cs) := by rw [Bb]; rfl
@[simp] theorem Qet (i v o f : Nat) : Qq (.ptr i v o) f = some (.ptr i v (o + f)) := by rw [Bp]; rfl
theorem M1 (cs : List V) (f : Nat) (h : f ≤ cs.length) : Qq (.fptr cs) f = some (.fptr (cs.drop f)) := by rw [Bp]; simp [JZ,h]
@[simp] theorem Qfp (t : TypeId) (v : V) : Fa (.iface t v) = some (.iface t v) := by rw [Qhq]; rfl
@[simp] theorem Qev (f : FuncId) (cap args : List V) : oFn (.fn f cap) args = some (f,args ++ cap) := by rw [QgV]; rfl
@[simp] theorem Qep (call : Qr) (f : FuncId) (cap args : List V) (H : Qa) : J6 call (.fn f cap) args H = call f (args ++ cap) H := by rw [E0]; rfl
@[simp] theorem Qfu (b : Bool) : oUn .not (.bool b) = some (.bool !b) := by rw [BG]; rfl
@[simp] theorem Qft (k : IntKind) (n : Int) : oUn .neg (.int k n) = some (.int k (k.wrap (0 - n))) := by rw [BG]; rfl
@[simp] theorem Qey (k l : IntKind) (n : Int) : Yc k (.int l n) = some (.int k (k.wrap n)) := by rw [Le]; rfl
@[simp] theorem Qfs (s : List UInt8) : Di (.str s) = some (.str s) := by rw [MK]; rfl
@[simp] theorem Qfd (s : List UInt8) : Us (.str s) = some (.int .i64 s.length) := by rw [MC]; rfl
@[simp] theorem Qfa : QM .nils = some (.int .i64 0) := by rw [UY]; rfl
@[simp] theorem Qfc (l : List V) : QM (.vs l) = some (.int .i64 l.length) := by rw [UY]; rfl
@[simp] theorem Qfb (i v s o n : Nat) : QM (.rs i v s o n) = some (.int .i64 n) := by rw [UY]; rfl
@[simp] theorem Qez (n : Nat) : Cp n = some (.int .i64 n) := by rw [NM]; rfl
@[simp] theorem Qeq (a : V) (l : List V) : MN (.tup (a :: l)) 0 = some a := by rw [Uh]; rfl
@[simp] theorem Qer (a b : V) (l : List V) : MN (.tup (a :: b :: l)) 1 = some b := by rw [Uh]; rfl
@[simp] theorem Qes (a b c : V) (l : List V) : MN (.tup (a :: b :: c :: l)) 2 = some c := by rw [Uh]; rfl
@[simp] theorem Qdu (t : TypeId) (v : V) : EE t (.iface t v) = some v := by rw [M6]; simp [R1]
section
variable (k : IntKind) (e : Nat) (x y : Int)
theorem JK (op : BinOp) (h1 : op ≠ .shl) (h2 : op ≠ .shr) : Qb op e (.int k x) (.int k y) = KU op k x y := by
 rw [JA]; unfold Kn Kw J0
 cases op <;> simp_all [KU] <;> split <;> simp_all
@[simp] theorem Qdx : Qb .add e (.int k x) (.int k y) = some (.int k (k.wrap (x + y))) := by rw [JK _ _ _ _ _ (by simp) (by simp)]; rfl
@[simp] theorem Qel : Qb .sub e (.int k x) (.int k y) = some (.int k (k.wrap (x - y))) := by rw [JK _ _ _ _ _ (by simp) (by simp)]; rfl
@[simp] theorem Qeg : Qb .mul e (.int k x) (.int k y) = some (.int k (k.wrap (x * y))) := by rw [JK _ _ _ _ _ (by simp) (by simp)]; rfl
@[simp] theorem Qeb : Qb .eql e (.int k x) (.int k y) = some (.bool (decide (x = y))) := by rw [JK _ _ _ _ _ (by simp) (by simp)]; simp [KU,BEq.beq]
@[simp] theorem Qeh : Qb .neq e (.int k x) (.int k y) = some (.bool (!decide (x = y))) := by rw [JK _ _ _ _ _ (by simp) (by simp)]; simp [KU,bne,BEq.beq]
@[simp] theorem Qef : Qb .lss e (.int k x) (.int k y) = some (.bool (decide (x < y))) := by rw [JK _ _ _ _ _ (by simp) (by simp)]; rfl
@[simp] theorem Qee : Qb .leq e (.int k x) (.int k y) = some (.bool (decide (x ≤ y))) := by rw [JK _ _ _ _ _ (by simp) (by simp)]; rfl
@[simp] theorem Qed : Qb .gtr e (.int k x) (.int k y) = some (.bool (decide (y < x))) := by rw [JK _ _ _ _ _ (by simp) (by simp)]; rfl
@[simp] theorem Qec : Qb .geq e (.int k x) (.int k y) = some (.bool (decide (y ≤ x))) := by rw [JK _ _ _ _ _ (by simp) (by simp)]; rfl
theorem Da (h : y ≠ 0) : Qb .quo e (.int k x) (.int k y) = some (.int k (k.wrap (x.tdiv y))) := by rw [JK _ _ _ _ _ (by simp) (by simp)]; simp [KU,h]
theorem Bq (h : y ≠ 0) : Qb .rem e (.int k x) (.int k y) = some (.int k (x.tmod y)) := by rw [JK _ _ _ _ _ (by simp) (by simp)]; simp [KU,h]
@[simp] theorem Qei : Qb .or e (.int k x) (.int k y) = some (.int k (k.wrap ((BitVec.ofInt k.bits x ||| BitVec.ofInt k.bits y).toNat))) := by rw [JK _ _ _ _ _ (by simp) (by simp)]; rfl
@[simp] theorem Qdy : Qb .and e (.int k x) (.int k y) = some (.int k (k.wrap ((BitVec.ofInt k.bits x &&& BitVec.ofInt k.bits y).toNat))) := by rw [JK _ _ _ _ _ (by simp) (by simp)]; rfl
end
section
variable (e : Nat) (s t : List UInt8)
theorem Pa (op : BinOp) (h1 : op ≠ .shl) (h2 : op ≠ .shr) : Qb op e (.str s) (.str t) = WN op s t := by
 rw [JA]; unfold Kn Kw J0
 cases op <;> simp_all [WN] <;> split <;> simp_all
theorem Z3 (h : s.length + t.length ≤ 9223372036854775807) : Qb .add e (.str s) (.str t) = some (.str (s ++ t)) := by rw [Pa _ _ _ _ (by simp) (by simp)]; simp [WN,h]
@[simp] theorem Qej : Qb .eql e (.str s) (.str t) = some (.bool (decide (s = t))) := by rw [Pa _ _ _ _ (by simp) (by simp)]; simp only [WN]; congr 2; by_cases h : s = t <;> simp [h]
@[simp] theorem Qek : Qb .neq e (.str s) (.str t) = some (.bool (!decide (s = t))) := by rw [Pa _ _ _ _ (by simp) (by simp)]; simp only [WN]; congr 2; by_cases h : s = t <;> simp [h]
end
@[simp] theorem Qdz (a b : Bool) : Qb .eql 0 (.bool a) (.bool b) = some (.bool (a == b)) := by rw [JA]; rfl
@[simp] theorem Qea (a b : Bool) : Qb .neq 0 (.bool a) (.bool b) = some (.bool !(a == b)) := by rw [JA]; rfl
@[simp] theorem Qdv (t : TypeId) (v : V) (c : Bool) : LK .neq c (.iface t v) .niface = some (.bool true) := by rw [BC]; rfl
@[simp] theorem Qdw : LK .neq true .niface .niface = some (.bool false) := by rw [BC]; rfl
theorem JW {H : Qa} {i j : Nat} {x : Blk} (h : j ≠ i) : Qh (Qn H i x) j = Qh H j := JD x h
theorem Qe5 {i : Nat} {x y : Blk} : ∀ {H : Qa},Qn (Qn H i x) i y = Qn H i y
 | [] => rfl
 | b :: H => by
  simp only [Qn]
  split
  ·simp only [Qn]; split <;> simp_all
  ·rename_i h; simp only [Qn,JB]; rw [if_neg h,Qe5]
theorem Va {i : Nat} {x : Blk} : ∀ {H : Qa},Qh H i = some x → Qn H i x = H
 | [],h => by simp [Qh] at h
 | b :: H,h => by
  simp only [Qh] at h
  simp only [Qn]
  split
  ·rename_i hi; rw [if_pos hi] at h; injection h with h; rw [h]
  ·rename_i hi; rw [if_neg hi] at h; rw [Va h]
@[simp] theorem Qcm (b : Blk) (H : Qa) : Qh (b :: H) H.length = some b := by simp [Qh]
theorem Gu {b x : Blk} {H : Qa} {i : Nat} (h : i ≠ H.length) : Qn (b :: H) i x = b :: Qn H i x := by simp [Qn,h]
@[simp] theorem Qcq (b x : Blk) (H : Qa) : Qn (b :: H) H.length x = x :: H := by simp [Qn]
@[simp] theorem Qcx (H : Qa) : Q2 H H.length = H := by simp [Q2]
theorem UR {H : Qa} {n : Nat} (h : H.length = n) : Q2 H n = H := by subst h; simp
theorem QeG {b : Blk} {H : Qa} {n : Nat} (h : n ≤ H.length) : Q2 (b :: H) n = Q2 H n := by
 unfold Q2
 rw [List.length_cons,show H.length + 1 - n = (H.length - n) + 1 by omega,List.drop_succ_cons]
def U0 (ag : Bool) (n ver off : Nat) : Option Blk → Option V
 | some (.var cs) => if ver = 0 then ZJ ag n (cs.drop off) else none
 | some (.row v _ _ cs) => if ver = v then ZJ ag n (cs.drop off) else none
 | _ => none
theorem Qj (ag : Bool) (n : Nat) (H : Qa) (i ver off : Nat) : Qc ag n H (.ptr i ver off) = U0 ag n ver off (Qh H i) := by
 rw [UA]
 unfold WJ WV U0
 cases hg : Qh H i with
 | none => simp [hg]
 | some b =>
  cases b with
  | var cs => simp only [hg]; split <;> rfl
  | row v sz ag' cs => simp only [hg]; split <;> rfl
  | dead => simp [hg]
  | map es => simp [hg]
@[simp] theorem Qcz (ag : Bool) (n off : Nat) (cs : List V) : U0 ag n 0 off (some (.var cs)) = ZJ ag n (cs.drop off) := by simp [U0]
@[simp] theorem Qcy (ag ag' : Bool) (n off ver sz : Nat) (cs : List V) : U0 ag n ver off (some (.row ver sz ag' cs)) = ZJ ag n (cs.drop off) := by simp [U0]
@[simp] theorem Qfh (ag : Bool) (n : Nat) (H : Qa) (cs : List V) : Qc ag n H (.fptr cs) = ZJ ag n cs := by rw [UA]; rfl
@[simp] theorem Qhj (v : V) (cs : List V) : ZJ false 1 (v :: cs) = some v := by simp [ZJ]
theorem QoG {n : Nat} {cs : List V} (h : n ≤ cs.length) : ZJ true n cs = some (.agg (cs.take n)) := by simp [ZJ,h]
def Ei (O n i ver off : Nat) (x : V) (H : Qa) : Option Blk → Option (V × Qa)
 | some (.var cs) => if x.cells.length = n ∧ Qv x.cells = true ∧ (O ≤ i ∨ x.maxRef ≤ i + 1) ∧ ver = 0 ∧ off + n ≤ cs.length then some (.tup [],Qn H i (.var (splice cs off x.cells))) else none
 | some (.row v sz ag cs) => if x.cells.length = n ∧ Qv x.cells = true ∧ (O ≤ i ∨ x.maxRef ≤ i + 1) ∧ ver = v ∧ off + n ≤ cs.length then some (.tup [],Qn H i (.row v sz ag (splice cs off x.cells))) else none
 | _ => none
theorem Qz (O n : Nat) (H : Qa) (i ver off : Nat) (x : V) : Qs O n H (.ptr i ver off) x = Ei O n i ver off x H (Qh H i) := by
 rw [Rq]
 unfold Mb Rx Ei fits
 by_cases h1 : x.cells.length = n ∧ Qv x.cells = true
 ·rw [if_pos h1]
  by_cases h2 : O ≤ i ∨ x.maxRef ≤ i + 1
  ·have hb : (decide (O ≤ i) || decide (x.maxRef ≤ i + 1)) = true := by simpa using h2
   simp only [hb,if_true]
   cases hg : Qh H i with
   | none => rfl
   | some b =>
    cases b with
    | var cs =>
     simp only
     by_cases h3 : ver = 0 ∧ off + n ≤ cs.length
     ·rw [if_pos h3,if_pos ⟨h1.1,h1.2,h2,h3.1,h3.2⟩]; rfl
     ·rw [if_neg h3,if_neg (fun hh => h3 ⟨hh.2.2.2.1,hh.2.2.2.2⟩)]; rfl
    | row v sz ag cs =>
     simp only
     by_cases h3 : ver = v ∧ off + n ≤ cs.length
     ·rw [if_pos h3,if_pos ⟨h1.1,h1.2,h2,h3.1,h3.2⟩]; rfl
     ·rw [if_neg h3,if_neg (fun hh => h3 ⟨hh.2.2.2.1,hh.2.2.2.2⟩)]; rfl
    | dead => rfl
    | map es => rfl
  ·have hb : ¬ (decide (O ≤ i) || decide (x.maxRef ≤ i + 1)) = true := by simpa using h2
   simp only [hb,if_false]
   cases Qh H i with
   | none => rfl
   | some b => cases b <;> simp [h2]
 ·rw [if_neg h1]
  cases Qh H i with
  | none => rfl
  | some b => cases b <;> simp <;> intro a b <;> exact absurd ⟨a,b⟩ h1
theorem R9 {H : Qa} {x : V} (h : Qv x.cells = true) : QD H x = some (.ptr H.length 0 0,.var x.cells :: H) := by rw [NH]; simp [NB,newVar,h]
theorem VL {O : Nat} {v v' : V} {H : Qa} (h : frz H O depth v = some v') (hm : v'.maxRef ≤ O) : rt false O v H = some (.ret v',Q2 H O) := by
 rw [Ly]; simp [U9,YF,h,hm]
theorem Qoa {O : Nat} {v v' : V} {H : Qa} (h : frz H O depth v = some v') (hm : v'.maxRef ≤ O) : pn false O v H = some (.pan v',Q2 H O) := by
 rw [Qg5]; simp [PU,YF,h,hm]
@[simp] theorem Qgc (O : Nat) (b : Bool) (H : Qa) : rt false O (.bool b) H = some (.ret (.bool b),Q2 H O) := VL rfl (Nat.zero_le _)
@[simp] theorem Qge (O : Nat) (k : IntKind) (n : Int) (H : Qa) : rt false O (.int k n) H = some (.ret (.int k n),Q2 H O) := VL rfl (Nat.zero_le _)
@[simp] theorem Qgi (O : Nat) (s : List UInt8) (H : Qa) : rt false O (.str s) H = some (.ret (.str s),Q2 H O) := VL rfl (Nat.zero_le _)
@[simp] theorem Qgk (O : Nat) (H : Qa) : rt false O (.tup []) H = some (.ret (.tup []),Q2 H O) := VL rfl (Nat.zero_le _)
@[simp] theorem Qfw (O : Nat) (t : TypeId) (k : IntKind) (n : Int) (H : Qa) : pn false O (.iface t (.int k n)) H = some (.pan (.iface t (.int k n)),Q2 H O) := Qoa rfl (Nat.zero_le _)
@[simp] theorem Qgf (O : Nat) (k : IntKind) (n : Int) (b : Bool) (H : Qa) : rt false O (.tup [.int k n,.bool b]) H = some (.ret (.tup [.int k n,.bool b]),Q2 H O) := VL rfl (Nat.zero_le _)
@[simp] theorem Qex (c : UInt8) (s : List UInt8) (k : IntKind) : KE (.str (c :: s)) (.int k 0) = some (.int .u8 c.toNat) := by rw [Rc]; rfl
theorem QbW {s : List UInt8} {k : IntKind} {n : Int} (h0 : 0 ≤ n) (h : n ≤ s.length) : F2 (.str s) none (some (.int k n)) none = some (.str (s.take n.toNat)) := by
 rw [NE]; simp [Rb,QW,h0,h]
end Go.Ev
end
section
namespace Go.Ev
@[simp] theorem Qao (b : Bool) : (V.bool b).cells = [.bool b] := rfl
@[simp] theorem Qar (k : IntKind) (n : Int) : (V.int k n).cells = [.int k n] := rfl
@[simp] theorem Qba (s : List UInt8) : (V.str s).cells = [.str s] := rfl
@[simp] theorem Qaw : V.nilptr.cells = [.nilptr] := rfl
@[simp] theorem Qay (a b c : Nat) : (V.ptr a b c).cells = [.ptr a b c] := rfl
@[simp] theorem Qax : V.nils.cells = [.nils] := rfl
@[simp] theorem Qbb (l : List V) : (V.vs l).cells = [.vs l] := rfl
@[simp] theorem Qaz (a b c d e : Nat) : (V.rs a b c d e).cells = [.rs a b c d e] := rfl
@[simp] theorem Qap (f : FuncId) (l : List V) : (V.fn f l).cells = [.fn f l] := rfl
@[simp] theorem Qau : V.nilfn.cells = [.nilfn] := rfl
@[simp] theorem Qat : V.niface.cells = [.niface] := rfl
@[simp] theorem Qaq (t : TypeId) (v : V) : (V.iface t v).cells = [.iface t v] := rfl
@[simp] theorem Qav : V.nilmap.cells = [.nilmap] := rfl
@[simp] theorem Qas (a : Nat) : (V.mapr a).cells = [.mapr a] := rfl
@[simp] theorem Qan (l : List V) : (V.agg l).cells = l := rfl
@[simp] theorem Qgo : Qv [] = true := rfl
@[simp] theorem Qgn (v : V) (l : List V) : Qv (v :: l) = (v.scal && Qv l) := rfl
@[simp] theorem Qgp (b : Bool) : (V.bool b).scal = true := rfl
@[simp] theorem Qgs (k : IntKind) (n : Int) : (V.int k n).scal = true := rfl
@[simp] theorem Qhb (s : List UInt8) : (V.str s).scal = true := rfl
@[simp] theorem Qgx : V.nilptr.scal = true := rfl
@[simp] theorem Qgz (a b c : Nat) : (V.ptr a b c).scal = true := rfl
@[simp] theorem Qgy : V.nils.scal = true := rfl
@[simp] theorem Qhc (l : List V) : (V.vs l).scal = true := rfl
@[simp] theorem Qha (a b c d e : Nat) : (V.rs a b c d e).scal = true := rfl
@[simp] theorem Qgq (f : FuncId) (l : List V) : (V.fn f l).scal = true := rfl
@[simp] theorem Qgv : V.nilfn.scal = true := rfl
@[simp] theorem Qgu : V.niface.scal = true := rfl
@[simp] theorem Qgr (t : TypeId) (v : V) : (V.iface t v).scal = true := rfl
@[simp] theorem Qgw : V.nilmap.scal = true := rfl
@[simp] theorem Qgt (a : Nat) : (V.mapr a).scal = true := rfl
@[simp] theorem Qdf (b : Bool) : (V.bool b).maxRef = 0 := rfl
@[simp] theorem Qdi (k : IntKind) (n : Int) : (V.int k n).maxRef = 0 := rfl
@[simp] theorem Qdr (s : List UInt8) : (V.str s).maxRef = 0 := rfl
@[simp] theorem Qdn : V.nilptr.maxRef = 0 := rfl
@[simp] theorem Qdo : V.nils.maxRef = 0 := rfl
@[simp] theorem Qdt (l : List V) : (V.vs l).maxRef = 0 := rfl
@[simp] theorem Qdl : V.nilfn.maxRef = 0 := rfl
@[simp] theorem Qdk : V.niface.maxRef = 0 := rfl
@[simp] theorem Qdm : V.nilmap.maxRef = 0 := rfl
@[simp] theorem Qdp (a b c : Nat) : (V.ptr a b c).maxRef = a + 1 := rfl
@[simp] theorem Qdq (a b c d e : Nat) : (V.rs a b c d e).maxRef = a + 1 := rfl
@[simp] theorem Qdj (a : Nat) : (V.mapr a).maxRef = a + 1 := rfl
@[simp] theorem Qde (l : List V) : (V.agg l).maxRef = QX l := rfl
@[simp] theorem Qds (l : List V) : (V.tup l).maxRef = QX l := rfl
@[simp] theorem Qdg (f : FuncId) (l : List V) : (V.fn f l).maxRef = QX l := rfl
@[simp] theorem Qdh (t : TypeId) (v : V) : (V.iface t v).maxRef = v.maxRef := rfl
@[simp] theorem Qdd : QX [] = 0 := rfl
@[simp] theorem Qdc (v : V) (l : List V) : QX (v :: l) = max v.maxRef (QX l) := rfl
@[simp] theorem Qhh (O n i ver off : Nat) (x : V) (H : Qa) (cs : List V) : Ei O n i ver off x H (some (.var cs)) =
  if x.cells.length = n ∧ Qv x.cells = true ∧ (O ≤ i ∨ x.maxRef ≤ i + 1) ∧ ver = 0 ∧ off + n ≤ cs.length then some (.tup [],Qn H i (.var (splice cs off x.cells))) else none := rfl
@[simp] theorem Qhg (O n i ver off : Nat) (x : V) (H : Qa) (v sz : Nat) (ag : Bool) (cs : List V) : Ei O n i ver off x H (some (.row v sz ag cs)) =
  if x.cells.length = n ∧ Qv x.cells = true ∧ (O ≤ i ∨ x.maxRef ≤ i + 1) ∧ ver = v ∧ off + n ≤ cs.length then some (.tup [],Qn H i (.row v sz ag (splice cs off x.cells))) else none := rfl
@[simp] theorem Qhf (cs xs : List V) : splice cs 0 xs = xs ++ cs.drop xs.length := by simp [splice]
@[simp] theorem Qhe (c : V) (cs xs : List V) (off : Nat) : splice (c :: cs) (off + 1) xs = c :: splice cs off xs := by
 simp [splice,Nat.add_right_comm]
@[simp] theorem Qcs (H : Qa) (i : Nat) (x : Blk) : Q2 (Qn H i x) H.length = Qn H i x := UR (by simp)
@[simp] theorem Qam (n : Nat) : ((no_index (OfNat.ofNat n) : Nat) : Int) = (OfNat.ofNat n : Int) := rfl
theorem KG {a b : Nat} (h : a < b) : (a < b + 1) = True := by simp; omega
theorem Qu {a b : Nat} (h : a ≤ b) : (a ≤ b + 1) = True := by simp; omega
@[simp] theorem Qcr {b : Blk} {H : Qa} {n : Nat} (h : n ≤ H.length) : Q2 (b :: H) n = Q2 H n := QeG h
@[simp] theorem Qck {b : Blk} {H : Qa} {i : Nat} (h : i < H.length) : Qh (b :: H) i = Qh H i := JJ b h
@[simp] theorem Qco {b x : Blk} {H : Qa} {i : Nat} (h : i < H.length) : Qn (b :: H) i x = b :: Qn H i x := Gu (by omega)
@[simp] theorem Qcl {H : Qa} {i : Nat} {x : Blk} (h : i < H.length) : Qh (Qn H i x) i = some x := Yf x h
@[simp] theorem Qcj {b : Blk} {H : Qa} {i : Nat} (h : i = H.length) : Qh (b :: H) i = some b := by subst h; simp
@[simp] theorem Qcn {b x : Blk} {H : Qa} {i : Nat} (h : i = H.length) : Qn (b :: H) i x = x :: H := by subst h; simp
@[simp] theorem Qcp {H : Qa} {i : Nat} {x y : Blk} : Qn (Qn H i x) i y = Qn H i y := Qe5
@[simp] theorem Qfv {H : Qa} {x : V} (h : Qv x.cells = true) : QD H x = some (.ptr H.length 0 0,.var x.cells :: H) := R9 h
@[simp] theorem Qhi {n : Nat} {cs : List V} (h : n ≤ cs.length) : ZJ true n cs = some (.agg (cs.take n)) := QoG h
theorem wrap_i64 {x : Int} (h1 : -9223372036854775808 ≤ x) (h2 : x ≤ 9223372036854775807) : IntKind.i64.wrap x = x := by
 simp only [IntKind.wrap,IntKind.bits,IntKind.signed,Nat.reduceSub,Int.reducePow,Bool.true_and]
 split <;> rename_i h <;> simp at h <;> omega
theorem wrap_u8 {x : Int} (h1 : 0 ≤ x) (h2 : x ≤ 255) : IntKind.u8.wrap x = x := by
 simp only [IntKind.wrap,IntKind.bits,IntKind.signed,Bool.false_and,Bool.false_eq_true,if_false,Int.reducePow]
 omega
theorem Qmz {a : Nat} (h : a < 4611686018427387904) : IntKind.i64.wrap ((a : Int) + 1) = ((a + 1 : Nat) : Int) := by
 rw [wrap_i64 (by omega) (by omega)]; omega
@[simp] theorem Qfj (k : IntKind) (x y : Int) : Ap [.int k x,.int k y] = some (.int k (if x < y then y else x)) := by rw [Nf]; rfl
@[simp] theorem Qfk (k : IntKind) (x y : Int) : Fh [.int k x,.int k y] = some (.int k (if y < x then y else x)) := by rw [R0]; rfl
@[simp] theorem Qen (z : List V) (pl : List (Nat × Nat)) : Zj z pl [] = some (.agg z) := by rw [V8]; rfl
noncomputable def DV (z : List V) (pl : List (Nat × Nat)) (v : V) (ps : List (Nat × V)) : Option (Nat × Nat) → Option V
 | none => none
 | some (off,size) => if v.cells.length = size ∧ Qv v.cells = true ∧ off + size ≤ z.length then Zj (splice z off v.cells) pl ps else none
@[simp] theorem Qem (z : List V) (pl : List (Nat × Nat)) (i : Nat) (v : V) (ps : List (Nat × V)) : Zj z pl ((i,v) :: ps) = DV z pl v ps pl[i]? := by
 rw [V8]
 unfold GD DV
 simp only [YQ]
 cases pl[i]? with
 | none => rfl
 | some r =>
  obtain ⟨off,size⟩ := r
  simp only
  split
  ·rw [V8]; rfl
  ·rfl
@[simp] theorem Qai (z : List V) (pl : List (Nat × Nat)) (v : V) (ps : List (Nat × V)) (off size : Nat) : DV z pl v ps (some (off,size)) =
 if v.cells.length = size ∧ Qv v.cells = true ∧ off + size ≤ z.length then Zj (splice z off v.cells) pl ps else none := rfl
@[simp] theorem Qeu (off : Nat) (ag : Bool) (n : Nat) (cs : List V) : F8 off ag n (.agg cs) = if off + n ≤ cs.length then ZJ ag n (cs.drop off) else none := by rw [Nt]; rfl
theorem QgK (x : V) : flat [x] = x.cells := by simp [flat]
theorem Tn {O sz by_ : Nat} {ag : Bool} {x : V} {H : Qa} (hx : x.cells.length = sz) (hs : Qv x.cells = true) (hz : 0 < sz) (hr : Yj 1 by_ = true) :
  Z1 O sz by_ ag .nils (.vs [x]) H = some (.rs H.length 0 sz 0 1,.row 0 sz ag x.cells :: H) := by
 rw [W6]
 simp [WG,ZB,ZM,Yz,hx,QgK,JR,hs,hz,hr]
theorem Qf6 {O sz by_ : Nat} {ag : Bool} {x : V} {H : Qa} {i ver len : Nat} {cs : List V} (hg : Qh H i = some (.row ver sz ag cs)) (hl : cs.length = len * sz) (hx : x.cells.length = sz) (hs : Qv x.cells = true) (hz : 0 < sz)
  (hf : O ≤ i ∨ QX x.cells ≤ i + 1) (hr : Yj (len + 1) by_ = true) :
  Z1 O sz by_ ag (.rs i ver sz 0 len) (.vs [x]) H = some (.rs i (ver + 1) sz 0 (len + 1),Qn H i (.row (ver + 1) sz ag (cs ++ x.cells))) := by
 have hf' : fits O i (QX x.cells) = true := by simpa [fits] using hf
 have h1 : ¬ (len + 1) * sz ≤ cs.length := by
  rw [hl,Nat.add_mul]; omega
 rw [W6]
 simp [WG,ZB,ZM,Yz,hx,QgK,JR,hs,hz,hr,hg,hf',hl]
 rw [if_neg (by rw [Nat.add_mul]; omega)]
 simp [List.take_of_length_le (Nat.le_of_eq hl)]
theorem C7 {sz : Nat} {z x : V} (hx : x.cells.length = sz) (hs : Qv x.cells = true) (hn : x.nrm = x) (hc : x.clean = true) : Zq sz 1 z [(0,x)] = some (.vs [x]) := by
 rw [WA]
 simp [Ba,Wh,hx,hs,hn,hc,J3]
@[simp] theorem Qff (z : V) (k : IntKind) (n : Int) : Zq 1 1 z [(0,.int k n)] = some (.vs [.int k n]) := C7 rfl rfl rfl rfl
@[simp] theorem Qfg (z : V) (s : List UInt8) : Zq 1 1 z [(0,.str s)] = some (.vs [.str s]) := C7 rfl rfl rfl rfl
theorem QpE {sz : Nat} {ag : Bool} {z : List V} {x : V} {H : Qa} (hz : z.length = sz) (hx : x.cells.length = sz) (hs : Qv x.cells = true) (h0 : 0 < sz) : Wq 1 sz ag z H [(0,x)] = some (.rs H.length 0 sz 0 1,.row 0 sz ag x.cells :: H) := by
 rw [BW]
 have : splice z 0 x.cells = x.cells := by simp [splice,hx,← hz]
 simp [NO,YQ,hx,hs,hz,rowOf,h0,splice]
 simp [← hz]; exact hs
theorem V5 {i ver sz off n : Nat} {k : IntKind} {j : Nat} (h : j < n) : Qx sz (.rs i ver sz off n) (.int k j) = some (.ptr i ver ((off + j) * sz)) := by
 rw [Rs]; simp [Ll,ZY,WQ,h]
theorem GZ {sz : Nat} {xs : List V} {k : IntKind} {j : Nat} {y : V} (h : xs[j]? = some y) (hy : y.cells.length = sz) : Qx sz (.vs xs) (.int k j) = some (.fptr y.cells) := by
 rw [Rs]; simp [Ll,ZY,WQ,h,hy]
@[simp] theorem Qfi (H : Qa) : EL H = some (.mapr H.length,.map [] :: H) := by rw [RY]; rfl
@[simp] theorem Qfy (k : IntKind) (n : Int) : Jw 0 (.int k n) = true := rfl
@[simp] theorem Qfz (s : List UInt8) : Jw 1 (.str s) = true := rfl
@[simp] theorem Qfx (b : Bool) : Jw 2 (.bool b) = true := rfl
@[simp] theorem Qbr (k : V) (i : Nat) : Ym k [] i = some none := rfl
@[simp] theorem Qbq (kk : IntKind) (a b : Int) (v : V) (es : List (V × V)) (i : Nat) : Ym (.int kk a) ((.int kk b,v) :: es) i = if a = b then some (some (i,v)) else Ym (.int kk a) es (i + 1) := by
 simp only [Ym,sameKey,if_true]
 by_cases h : a = b
 ·subst h; simp
 ·have : (a == b) = false := by simpa using h
  simp [h,this]
@[simp] theorem Qbs (a b : List UInt8) (v : V) (es : List (V × V)) (i : Nat) : Ym (.str a) ((.str b,v) :: es) i = if a = b then some (some (i,v)) else Ym (.str a) es (i + 1) := by
 simp only [Ym,sameKey]
 by_cases h : a = b
 ·subst h; simp
 ·have : (a == b) = false := by simpa using h
  simp [h,this]
def QkO (O kk i : Nat) (k x : V) (H : Qa) : Option Blk → Option (V × Qa)
 | some (.map es) => if Jw kk k = true ∧ (O ≤ i ∨ x.maxRef ≤ i + 1) then (Ym k es 0).map fun r => match r with
   | some (j,_) => (.tup [],Qn H i (.map (es.set j (k,x))))
   | none => (.tup [],Qn H i (.map (es ++ [(k,x)])))
  else none
 | _ => none
@[simp] theorem Qhk (O kk i : Nat) (k x : V) (H : Qa) (es : List (V × V)) : QkO O kk i k x H (some (.map es)) = if Jw kk k = true ∧ (O ≤ i ∨ x.maxRef ≤ i + 1) then (Ym k es 0).map fun r => match r with
   | some (j,_) => (.tup [],Qn H i (.map (es.set j (k,x))))
   | none => (.tup [],Qn H i (.map (es ++ [(k,x)])))
  else none := rfl
def rtF (O : Nat) (v : V) (H : Qa) : Option V → Option (Out × Qa)
 | some v' => if v'.maxRef ≤ O then some (.ret v',Q2 H O) else some (.ret v,H)
 | none => if v.maxRef ≤ O then some (.ret v,Q2 H O) else some (.ret v,H)
theorem NF (O : Nat) (v : V) (H : Qa) : rt false O v H = rtF O v H (frz H O depth v) := by
 rw [Ly]
 unfold U9 YF rtF
 simp only [Bool.false_eq_true,if_false]
 cases frz H O depth v with
 | none => simp only; split <;> rfl
 | some v' => simp only; split <;> rfl
@[simp] theorem Qgb (O : Nat) (cs : List V) (H : Qa) : rt false O (.agg cs) H = rtF O (.agg cs) H (frz H O depth (.agg cs)) := NF _ _ _
@[simp] theorem Qgj (O : Nat) (v : V) (cs : List V) (H : Qa) : rt false O (.tup (v :: cs)) H = rtF O (.tup (v :: cs)) H (frz H O depth (.tup (v :: cs))) := NF _ _ _
@[simp] theorem Qgh (O a b c d e : Nat) (H : Qa) : rt false O (.rs a b c d e) H = rtF O (.rs a b c d e) H (frz H O depth (.rs a b c d e)) := NF _ _ _
@[simp] theorem Qgd (O : Nat) (t : TypeId) (v : V) (H : Qa) : rt false O (.iface t v) H = rtF O (.iface t v) H (frz H O depth (.iface t v)) := NF _ _ _
@[simp] theorem Qgl (O : Nat) (l : List V) (H : Qa) : rt false O (.vs l) H = some (.ret (.vs l),Q2 H O) := VL rfl (Nat.zero_le _)
@[simp] theorem Qgg (O : Nat) (H : Qa) : rt false O .nils H = some (.ret (.vs []),Q2 H O) := VL rfl (Nat.zero_le _)
@[simp] theorem Qga (O : Nat) (v v' : V) (H : Qa) : rtF O v H (some v') = if v'.maxRef ≤ O then some (.ret v',Q2 H O) else some (.ret v,H) := rfl
@[simp] theorem Qbe : depth = 11 + 1 := rfl
def V.plain : V → Bool
 | .nils | .rs _ _ _ _ _ | .agg _ | .tup _ | .iface _ _ => false
 | _ => true
theorem A4 {H : Qa} {O n : Nat} {v : V} (h : v.plain = true) : frz H O (n + 1) v = some v := by
 cases v <;> first | rfl | simp [V.plain] at h
section
variable (H : Qa) (O n : Nat)
@[simp] theorem Qbu (b : Bool) : frz H O (n + 1) (.bool b) = some (.bool b) := rfl
@[simp] theorem Qbx (k : IntKind) (x : Int) : frz H O (n + 1) (.int k x) = some (.int k x) := rfl
@[simp] theorem Qcc (s : List UInt8) : frz H O (n + 1) (.str s) = some (.str s) := rfl
@[simp] theorem Qce (l : List V) : frz H O (n + 1) (.vs l) = some (.vs l) := rfl
@[simp] theorem Qca : frz H O (n + 1) .nils = some (.vs []) := rfl
@[simp] theorem Qbz : frz H O (n + 1) .nilptr = some .nilptr := rfl
@[simp] theorem Qby : frz H O (n + 1) .niface = some .niface := rfl
@[simp] theorem Qcb (a b c : Nat) : frz H O (n + 1) (.ptr a b c) = some (.ptr a b c) := rfl
@[simp] theorem Qbv (f : FuncId) (l : List V) : frz H O (n + 1) (.fn f l) = some (.fn f l) := rfl
@[simp] theorem Qbt (cs : List V) : frz H O (n + 1) (.agg cs) = (Ye (frz H O n) cs).map .agg := rfl
@[simp] theorem Qcd (cs : List V) : frz H O (n + 1) (.tup cs) = (Ye (frz H O n) cs).map .tup := rfl
@[simp] theorem Qbw (t : TypeId) (v : V) : frz H O (n + 1) (.iface t v) = (frz H O n v).map (.iface t) := rfl
end
@[simp] theorem Qdb (f : V → Option V) : Ye f [] = some [] := rfl
@[simp] theorem Qda (f : V → Option V) (v : V) (l : List V) : Ye f (v :: l) = (f v).bind fun y => (Ye f l).map fun ys => y :: ys := rfl
theorem LP {f : V → Option V} : ∀ {l : List V},(∀ v ∈ l,f v = some v) → Ye f l = some l
 | [],_ => rfl
 | v :: l,h => by rw [Ye,h v (List.mem_cons_self ..),LP fun u hu => h u (List.mem_cons_of_mem _ hu)]; rfl
theorem frz_row {H : Qa} {O n i ver sz len : Nat} {ag : Bool} {cs : List V} (hg : Qh H i = some (.row ver sz ag cs)) (hb : O ≤ i) (hl : cs.length = len * sz) (hz : 0 < sz) (hs : ∀ c ∈ cs,frz H O n c = some c)
  (hc : Q1 cs = true) (hsc : Qv cs = true) (ha : ag = true ∨ sz = 1) : frz H O (n + 1) (.rs i ver sz 0 len) = some (.vs (chunk sz ag len cs)) := by
 rw [frz]
 rw [if_neg (by omega)]
 simp only [hg,Nat.zero_mul,List.drop_zero,Nat.zero_add]
 rw [if_pos (by simp; omega),List.take_of_length_le (by omega),LP hs]
 simp only [Option.bind_some]
 rw [if_pos ⟨hc,hsc,ha⟩]
theorem QbD {sz : Nat} : ∀ {l : List V},(∀ v ∈ l,∃ cs,v = .agg cs ∧ cs.length = sz) → chunk sz true l.length (flat l) = l
 | [],_ => rfl
 | v :: l,h => by
  obtain ⟨cs,rfl,hc⟩ := h v (List.mem_cons_self ..)
  simp only [List.length_cons,chunk,flat,Qan,if_true]
  rw [List.take_left' hc,List.drop_left' hc,QbD fun u hu => h u (List.mem_cons_of_mem _ hu)]
end Go.Ev
end
section
namespace Go.Ev
theorem QjV (s : List UInt8) : Ya s = s.map fun b => V.int .u8 b.toNat := by
 induction s with
 | nil => rfl
 | cons b s ih => rw [Ya,ih]; rfl
@[simp] theorem Qak (s : List UInt8) : (Ya s).length = s.length := by simp [QjV]
@[simp] theorem Qal (s : List UInt8) : Qv (Ya s) = true := by
 induction s with
 | nil => rfl
 | cons b s ih => simp only [Ya,Qv,ih]; rfl
@[simp] theorem Qaj (s : List UInt8) : bytesOf (Ya s) = some s := by
 induction s with
 | nil => rfl
 | cons b s ih => simp [Ya,bytesOf,ih]
@[simp] theorem Qeo (s : List UInt8) (H : Qa) : Ce (.str s) H = some (.rs H.length 0 1 0 s.length,.row 0 1 false (Ya s) :: H) := by
 rw [MV]; simp [N4,rowOf]
theorem Qh9 {a b : List V} {x y : V} {j : Nat} (ha : a.length = j) : splice (a ++ x :: b) j [y] = a ++ y :: b := by
 subst ha; simp [splice]
theorem FK (a b : List V) : Qv (a ++ b) = (Qv a && Qv b) := by
 induction a with
 | nil => simp
 | cons v a ih => simp [ih,Bool.and_assoc]
theorem QjX (a b : List V) : Q1 (a ++ b) = (Q1 a && Q1 b) := by
 induction a with
 | nil => simp [Q1]
 | cons v a ih => simp [Q1,ih,Bool.and_assoc]
structure EncOK {α : Type} (f : α → V) (sz : Nat) : Prop where
 pos : 0 < sz
 agg : ∀ a,∃ cs,f a = .agg cs ∧ cs.length = sz ∧ Qv cs = true ∧ Q1 cs = true ∧ (∀ c ∈ cs,c.plain = true) ∧ Bl cs = cs
theorem Dq : ∀ {cs : List V},Q1 cs = true → (∀ c ∈ cs,c.plain = true) → QX cs = 0 := by
 have key : ∀ v : V,v.clean = true → v.maxRef = 0 := fun v h => Bi h
 intro cs
 induction cs with
 | nil => intro _ _; rfl
 | cons v cs ih =>
  intro h1 h2
  simp only [Q1,Bool.and_eq_true] at h1
  simp [key v h1.1,ih h1.2 (fun c hc => h2 c (List.mem_cons_of_mem _ hc))]
section
variable {α : Type} {f : α → V} {sz : Nat} (h : EncOK f sz)
include h
theorem EncOK.cells (a : α) : (f a).cells.length = sz := by obtain ⟨cs,e,h1,_⟩ := h.agg a; rw [e]; exact h1
theorem EncOK.scal (a : α) : Qv (f a).cells = true := by obtain ⟨cs,e,_,h1,_⟩ := h.agg a; rw [e]; exact h1
theorem EncOK.clean (a : α) : (f a).clean = true := by obtain ⟨cs,e,_,_,h1,_⟩ := h.agg a; rw [e]; exact h1
theorem EncOK.aggc (a : α) : V.agg (f a).cells = f a := by obtain ⟨cs,e,_⟩ := h.agg a; rw [e]; rfl
theorem EncOK.take (a : α) : V.agg (List.take sz (f a).cells) = f a := by rw [List.take_of_length_le (by rw [h.cells]; exact Nat.le_refl _),h.aggc]
theorem EncOK.nrm (a : α) : (f a).nrm = f a := by obtain ⟨cs,e,_,_,_,_,h1⟩ := h.agg a; rw [e]; simp [V.nrm,h1]
theorem EncOK.mr (a : α) : (f a).maxRef = 0 := by obtain ⟨cs,e,_,_,h1,h2,_⟩ := h.agg a; rw [e]; exact Dq h1 h2
theorem EncOK.mrc (a : α) : QX (f a).cells = 0 := by obtain ⟨cs,e,_,_,h1,h2,_⟩ := h.agg a; rw [e]; exact Dq h1 h2
theorem EncOK.frz (H : Qa) (O n : Nat) (a : α) : frz H O (n + 1 + 1) (f a) = some (f a) := by
 obtain ⟨cs,e,_,_,_,h2,_⟩ := h.agg a
 rw [e,Qbt,LP (fun c hc => A4 (h2 c hc))]; rfl
theorem EncOK.rt (O : Nat) (a : α) (H : Qa) : rt false O (f a) H = some (.ret (f a),Q2 H O) := VL (h.frz H O 10 a) (by rw [h.mr]; exact Nat.zero_le _)
theorem EncOK.lit (z : V) (a : α) : Zq sz 1 z [(0,f a)] = some (.vs [f a]) := C7 (h.cells a) (h.scal a) (h.nrm a) (h.clean a)
end
def ZK {α : Type} (f : α → V) (l : List α) : List V := flat (l.map f)
theorem MZ {α : Type} (f : α → V) (l m : List α) : ZK f (l ++ m) = ZK f l ++ ZK f m := by
 induction l with
 | nil => rfl
 | cons e l ih => simp only [List.cons_append,ZK,List.map_cons,flat] at ih ⊢; rw [ih]; simp
theorem N9 {α : Type} (f : α → V) (a : α) : ZK f [a] = (f a).cells := by simp [ZK,flat]
theorem Lr {α : Type} (f : α → V) (a : α) (l : List α) : ZK f (a :: l) = (f a).cells ++ ZK f l := rfl
section
variable {α : Type} {f : α → V} {sz : Nat} (h : EncOK f sz)
include h
theorem EncOK.cellsF_length (l : List α) : (ZK f l).length = l.length * sz := by
 induction l with
 | nil => simp [ZK,flat]
 | cons e l ih => rw [Lr,List.length_append,h.cells,ih,List.length_cons,Nat.add_mul]; omega
theorem EncOK.cellsF_scal (l : List α) : Qv (ZK f l) = true := by
 induction l with
 | nil => rfl
 | cons e l ih => rw [Lr,FK,h.scal,ih]; rfl
theorem EncOK.cellsF_clean (l : List α) : Q1 (ZK f l) = true := by
 induction l with
 | nil => rfl
 | cons e l ih => rw [Lr,QjX,ih]; obtain ⟨cs,e',_,_,h1,_⟩ := h.agg e; rw [e']; simp [h1]
theorem EncOK.cellsF_plain (l : List α) : ∀ c ∈ ZK f l,c.plain = true := by
 induction l with
 | nil => intro c hc; simp [ZK,flat] at hc
 | cons e l ih =>
  intro c hc
  rw [Lr] at hc
  rcases List.mem_append.1 hc with hc | hc
  ·obtain ⟨cs,e',_,_,_,h1,_⟩ := h.agg e; rw [e'] at hc; exact h1 c hc
  ·exact ih c hc
theorem EncOK.chunk (l : List α) : chunk sz true l.length (ZK f l) = l.map f := by
 have := QbD (sz := sz) (l := l.map f) (fun v hv => by
  obtain ⟨e,_,rfl⟩ := List.mem_map.1 hv
  obtain ⟨cs,e',h1,_⟩ := h.agg e
  exact ⟨cs,e',h1⟩)
 rw [List.length_map] at this
 exact this
theorem EncOK.frz_row {H : Qa} {O n i ver : Nat} {l : List α} {m : Nat} (hg : Qh H i = some (.row ver sz true (ZK f l))) (hb : O ≤ i) (hm : m = l.length) : Ev.frz H O (n + 1 + 1) (.rs i ver sz 0 m) = some (.vs (l.map f)) := by
 subst hm
 rw [Ev.frz_row hg hb (h.cellsF_length l) h.pos (fun c hc => A4 (h.cellsF_plain l c hc)) (h.cellsF_clean l) (h.cellsF_scal l) (.inl rfl),h.chunk]
theorem EncOK.append {O by_ i ver : Nat} {H : Qa} {l : List α} {a : α} {n : Nat} (hg : Qh H i = some (.row ver sz true (ZK f l))) (hn : n = l.length) (hr : Yj (l.length + 1) by_ = true) :
  Z1 O sz by_ true (.rs i ver sz 0 n) (.vs [f a]) H = some (.rs i (ver + 1) sz 0 (n + 1),Qn H i (.row (ver + 1) sz true (ZK f (l ++ [a])))) := by
 subst hn
 rw [Qf6 hg (h.cellsF_length l) (h.cells a) (h.scal a) h.pos (.inr (by rw [h.mrc]; omega)) hr,MZ,N9]
theorem EncOK.append_nil {O by_ : Nat} {H : Qa} {a : α} (hr : Yj 1 by_ = true) : Z1 O sz by_ true .nils (.vs [f a]) H = some (.rs H.length 0 sz 0 1,.row 0 sz true (ZK f [a]) :: H) := by
 rw [Tn (h.cells a) (h.scal a) h.pos hr,N9]
theorem EncOK.row {z : List V} {a : α} {H : Qa} (hz : z.length = sz) : Wq 1 sz true z H [(0,f a)] = some (.rs H.length 0 sz 0 1,.row 0 sz true (ZK f [a]) :: H) := by
 rw [QpE hz (h.cells a) (h.scal a) h.pos,N9]
end
@[simp] theorem Qct (a : Blk) (H : Qa) : Q2 (a :: H) (H.length + 1) = a :: H := UR (by simp)
@[simp] theorem Qcu (a b : Blk) (H : Qa) : Q2 (a :: b :: H) (H.length + 1 + 1) = a :: b :: H := UR (by simp)
@[simp] theorem Qcv (a b c : Blk) (H : Qa) : Q2 (a :: b :: c :: H) (H.length + 1 + 1 + 1) = a :: b :: c :: H := UR (by simp)
@[simp] theorem Qcw (a b c d : Blk) (H : Qa) : Q2 (a :: b :: c :: d :: H) (H.length + 1 + 1 + 1 + 1) = a :: b :: c :: d :: H := UR (by simp)
end Go.Ev
end
section
namespace Go.Ev
theorem UV {len n i v o : Nat} {k : IntKind} {j : Nat} (h : j < len) : Wl len n (.ptr i v o) (.int k (j : Int)) = some (.ptr i v (o + j * n)) := by
 rw [RQ]; simp [Md,ZY,JZ,h]
theorem FO {len n : Nat} {k : IntKind} {j : Nat} {cs : List V} (h : j < len) (hc : cs.length = len * 1) : Ee len false 1 (.agg cs) (.int k (j : Int)) = cs[j]? := by
 rw [Mq]
 simp [MQ,ZY,h,hc,Nat.succ_le_of_lt h,ZJ]
 omega
theorem QbK {e : Nat} {k l : IntKind} {x y : Int} (h : 0 ≤ y) : Qb .shr e (.int k x) (.int l y) = some (.int k (x.fdiv (2 ^ (min y.toNat k.bits)))) := by
 rw [JA]; simp [Kn,Kw,J0,MI,Int.not_lt.2 h]
theorem Qib {e : Nat} {k l : IntKind} {x y : Int} (h : 0 ≤ y) : Qb .shl e (.int k x) (.int l y) = some (.int k (k.wrap (x * 2 ^ (min y.toNat k.bits)))) := by
 rw [JA]; simp [Kn,Kw,J0,MI,Int.not_lt.2 h]
theorem QbQ {H : Qa} {s : List UInt8} : JV H (.vs (s.map fun b => .int .u8 b.toNat)) = some (.str s) := by
 have h1 : Yz 1 (s.map fun b : UInt8 => V.int .u8 b.toNat) = true := by
  induction s with
  | nil => rfl
  | cons a s ih => simpa [Yz] using ih
 have h2 : flat (s.map fun b : UInt8 => V.int .u8 b.toNat) = Ya s := by
  clear h1
  induction s with
  | nil => rfl
  | cons a s ih => simp only [List.map_cons,flat,ih,Ya]; rfl
 rw [N1]
 simp [L6,ZM,h1,h2,Qaj]
theorem QpQ {u k : Nat} (hu : u < 18446744073709551616) (hk : k ≤ 64) : IntKind.u64.wrap (((BitVec.ofInt IntKind.u64.bits (u : Int) &&& BitVec.ofInt IntKind.u64.bits ((2 ^ k - 1 : Nat) : Int)).toNat : Nat) : Int) = ((u % 2 ^ k : Nat) : Int) := by
 have hb : IntKind.u64.bits = 64 := rfl
 rw [hb]
 have h2 : 2 ^ k ≤ 2 ^ 64 := Nat.pow_le_pow_right (by omega) hk
 have hp : 0 < 2 ^ k := Nat.pow_pos (by omega)
 have e1 : (BitVec.ofInt 64 (u : Int) &&& BitVec.ofInt 64 ((2 ^ k - 1 : Nat) : Int)).toNat = u % 2 ^ k := by
  rw [BitVec.toNat_and,BitVec.ofInt_natCast,BitVec.ofInt_natCast,BitVec.toNat_ofNat,BitVec.toNat_ofNat,Nat.mod_eq_of_lt (by simpa using hu),Nat.mod_eq_of_lt (a := 2 ^ k - 1) (by omega),Nat.and_two_pow_sub_one_eq_mod]
 rw [e1]
 have h3 : u % 2 ^ k ≤ u := Nat.mod_le _ _
 simp only [IntKind.wrap,IntKind.bits,IntKind.signed,Bool.false_and,Bool.false_eq_true,if_false,Int.reducePow]
 omega
theorem Qoo {n by_ : Nat} {ag : Bool} {z : List V} {k l : IntKind} {m : Nat} {H : Qa} (h1 : Yj m by_ = true) (h2 : m ≤ 9223372036854775807) (hz : z.length = n) (hn : 0 < n) (hs : Qv z = true) :
  R5 n ag by_ z (.int k (m : Int)) (.int l (m : Int)) H = some (.rs H.length 0 n 0 m,.row 0 n ag (Q7 m z) :: H) := by
 have hsc : Qv (Q7 m z) = true := by
  clear h1 h2
  induction m with
  | zero => rfl
  | succ m ih => rw [Q7,FK,hs,ih]; rfl
 rw [M4]
 simp [Mg,ZY,h1,h2,rowOf,hn,AE,hz,hsc]
theorem QmV {G H : Qa} {i : Nat} (h : i < H.length) : Qh (G ++ H) i = Qh H i := by
 induction G with
 | nil => rfl
 | cons b G ih => rw [List.cons_append,JJ b (by simp; omega),ih]
theorem Qij {G H : Qa} {i : Nat} {x : Blk} (h : i < H.length) : Qn (G ++ H) i x = G ++ Qn H i x := by
 induction G with
 | nil => rfl
 | cons b G ih => rw [List.cons_append,Gu (by simp; omega),ih]; rfl
theorem QjW {G H : Qa} {n : Nat} (h : n ≤ H.length) : Q2 (G ++ H) n = Q2 H n := by
 induction G with
 | nil => rfl
 | cons b G ih => rw [List.cons_append,QeG (by simp; omega),ih]
section
variable {α : Type}
theorem Qja {l : List (List UInt8)} {i : Int} (h0 : 0 ≤ i) (h1 : i < l.length) {k : IntKind} : ∃ t ∈ l,Qx 1 (.vs (l.map V.str)) (.int k i) = some (.fptr [.str t]) := by
 have hi : i.toNat < l.length := by omega
 refine ⟨l[i.toNat],List.getElem_mem hi,?_⟩
 have := GZ (sz := 1) (xs := l.map V.str) (k := k) (j := i.toNat) (y := .str l[i.toNat]) (by simp [hi]) rfl
 rw [show ((i.toNat : Nat) : Int) = i by omega] at this
 exact this
theorem Qg7 {l : List Int} {k' : IntKind} {i : Int} (h0 : 0 ≤ i) (h1 : i < l.length) {k : IntKind} : ∃ n ∈ l,Qx 1 (.vs (l.map (V.int k'))) (.int k i) = some (.fptr [.int k' n]) := by
 have hi : i.toNat < l.length := by omega
 refine ⟨l[i.toNat],List.getElem_mem hi,?_⟩
 have := GZ (sz := 1) (xs := l.map (V.int k')) (k := k) (j := i.toNat) (y := .int k' l[i.toNat]) (by simp [hi]) rfl
 rw [show ((i.toNat : Nat) : Int) = i by omega] at this
 exact this
theorem UG {n : Int} (h : (Lit.int .u8 n).wf = true) : 0 ≤ n ∧ n ≤ 255 := by simpa [Lit.wf,IntKind.min,IntKind.max,IntKind.signed,IntKind.bits] using h
end
end Go.Ev
end
section
namespace Go.Ev
def Up (H G : Qa) : Prop := ∃ F,G = F ++ H
theorem Up.refl (H : Qa) : Up H H := ⟨[],rfl⟩
theorem Up.cons {H G : Qa} (h : Up H G) (b : Blk) : Up H (b :: G) := by obtain ⟨F,rfl⟩ := h; exact ⟨b :: F,rfl⟩
theorem Up.trans {H G K : Qa} (h : Up H G) (g : Up G K) : Up H K := by obtain ⟨F,rfl⟩ := h; obtain ⟨F',rfl⟩ := g; exact ⟨F' ++ F,by simp⟩
theorem Up.len {H G : Qa} (h : Up H G) : H.length ≤ G.length := by obtain ⟨F,rfl⟩ := h; simp
theorem Up.get {H G : Qa} (h : Up H G) {i : Nat} (hi : i < H.length) : Qh G i = Qh H i := by obtain ⟨F,rfl⟩ := h; exact QmV hi
theorem Up.trunc {H G : Qa} (h : Up H G) : Q2 G H.length = H := by obtain ⟨F,rfl⟩ := h; rw [QjW (Nat.le_refl _)]; simp
theorem Qa3 {H : Qa} {i : Nat} {x : Blk} (hi : H.length ≤ i) : ∀ F : Qa,∃ F',Qn (F ++ H) i x = F' ++ H
 | [] => ⟨[],by
  have : ∀ (H : Qa),H.length ≤ i → Qn H i x = H := by
   intro H
   induction H with
   | nil => intro _; rfl
   | cons b H ih => intro h; simp only [List.length_cons] at h; rw [Gu (by omega),ih (by omega)]
  simpa using this H hi⟩
 | b :: F => by
  by_cases e : i = (F ++ H).length
  ·subst e; exact ⟨x :: F,by simp⟩
  ·obtain ⟨F',h⟩ := Qa3 hi F
   exact ⟨b :: F',by rw [List.cons_append,Gu e,h]; rfl⟩
theorem Up.set {H G : Qa} (h : Up H G) {i : Nat} (hi : H.length ≤ i) (x : Blk) : Up H (Qn G i x) := by
 obtain ⟨F,rfl⟩ := h
 exact Qa3 hi F
theorem Up.set_low {H G : Qa} (h : Up H G) {i : Nat} (hi : i < H.length) (x : Blk) : Up (Qn H i x) (Qn G i x) := by
 obtain ⟨F,rfl⟩ := h
 exact ⟨F,Qij hi⟩
end Go.Ev
end
