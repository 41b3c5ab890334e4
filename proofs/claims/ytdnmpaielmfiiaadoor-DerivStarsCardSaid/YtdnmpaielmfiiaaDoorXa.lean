/- Xa: a part of the proof that each law of this seat answers true at every input. No condition. -/
import Derived.Test.YtdnmpaielmfiiaaDoorEvH
import Derived.Test.YtdnmpaielmfiiaaDoorEvG
import Derived.Lib.ItoaNum
import Derived.Lib.Join
import Derived.Lib.Bytealg
set_option linter.unusedVariables false
set_option linter.unusedSimpArgs false
set_option maxRecDepth 20000
section
namespace Go.X7
open Go Go.Ev
structure S4 where
 a : Nat
 b : Nat
 c : Nat
 d : Nat
 deriving DecidableEq,Inhabited
def S4.zero : S4 := ⟨0,0,0,0⟩
def S4.ok (s : S4) : Prop := s.a < 18446744073709551616 ∧ s.b < 18446744073709551616 ∧ s.c < 18446744073709551616 ∧ s.d < 18446744073709551616
instance (s : S4) : Decidable s.ok := inferInstanceAs (Decidable (_ ∧ _))
def S4.w (s : S4) : Nat → Nat
 | 0 => s.a
 | 1 => s.b
 | 2 => s.c
 | _ => s.d
def S4.has (s : S4) (i : Nat) : Bool := (s.w (i / 64)).testBit (i % 64)
def S4.join (s t : S4) : S4 := ⟨s.a ||| t.a,s.b ||| t.b,s.c ||| t.c,s.d ||| t.d⟩
def S4.setW (s : S4) (i x : Nat) : S4 := match i with
 | 0 => { s with a := x }
 | 1 => { s with b := x }
 | 2 => { s with c := x }
 | _ => { s with d := x }
def S4.put (s : S4) (i : Nat) : S4 := s.setW (i / 64) (s.w (i / 64) ||| 2 ^ (i % 64))
abbrev S4.cs (s : S4) : List V := [.int .u64 s.a,.int .u64 s.b,.int .u64 s.c,.int .u64 s.d]
abbrev encS (s : S4) : V := .agg s.cs
theorem Qht {x : Nat} (h : x < 18446744073709551616) {i : Nat} (hi : 64 ≤ i) : x.testBit i = false := by
 apply Nat.testBit_lt_two_pow
 have : 2 ^ 64 ≤ 2 ^ i := Nat.pow_le_pow_right (by omega) hi
 omega
theorem S4.w_lt {s : S4} (h : s.ok) (i : Nat) : s.w i < 18446744073709551616 := by
 unfold S4.w
 split
 ·exact h.1
 ·exact h.2.1
 ·exact h.2.2.1
 ·exact h.2.2.2
theorem S4.ext {s t : S4} (hs : s.ok) (ht : t.ok) (h : ∀ i,i < 256 → s.has i = t.has i) : s = t := by
 have key : ∀ j,j < 4 → s.w j = t.w j := fun j hj => by
  refine Nat.eq_of_testBit_eq fun i => ?_
  by_cases hi : i < 64
  ·have := h (j * 64 + i) (by omega)
   unfold S4.has at this
   rw [show (j * 64 + i) / 64 = j by omega,show (j * 64 + i) % 64 = i by omega] at this
   exact this
  ·rw [Qht (S4.w_lt hs j) (by omega),Qht (S4.w_lt ht j) (by omega)]
 cases s; cases t
 have k0 := key 0 (by omega); have k1 := key 1 (by omega); have k2 := key 2 (by omega); have k3 := key 3 (by omega)
 simp only [S4.w] at k0 k1 k2 k3
 subst k0 k1 k2 k3
 rfl
theorem S4.w_set (s : S4) {i : Nat} (hi : i < 4) (x j : Nat) (hj : j < 4) : (s.setW i x).w j = if j = i then x else s.w j := by
 match i,hi,j,hj with
 | 0,_,0,_ | 0,_,1,_ | 0,_,2,_ | 0,_,3,_ | 1,_,0,_ | 1,_,1,_ | 1,_,2,_ | 1,_,3,_ | 2,_,0,_ | 2,_,1,_ | 2,_,2,_ | 2,_,3,_ | 3,_,0,_ | 3,_,1,_ | 3,_,2,_ | 3,_,3,_ => rfl
theorem Ri {x y : Nat} (hx : x < 18446744073709551616) (hy : y < 18446744073709551616) : x ||| y < 18446744073709551616 := Nat.or_lt_two_pow (n := 64) hx hy
theorem S4.setW_ok {s : S4} (h : s.ok) (i : Nat) {x : Nat} (hx : x < 18446744073709551616) : (s.setW i x).ok := by
 obtain ⟨h0,h1,h2,h3⟩ := h
 unfold S4.setW
 split
 ·exact ⟨hx,h1,h2,h3⟩
 ·exact ⟨h0,hx,h2,h3⟩
 ·exact ⟨h0,h1,hx,h3⟩
 ·exact ⟨h0,h1,h2,hx⟩
theorem P0 {j : Nat} (h : j < 64) : 2 ^ j < 18446744073709551616 := by
 have := Nat.pow_lt_pow_right (a := 2) (by omega) h
 simpa using this
theorem S4.put_ok {s : S4} (h : s.ok) (i : Nat) : (s.put i).ok := S4.setW_ok h _ (Ri (S4.w_lt h _) (P0 (Nat.mod_lt _ (by omega))))
theorem S4.put_has (s : S4) {i j : Nat} (hi : i < 256) (hj : j < 256) : (s.put i).has j = (decide (j = i) || s.has j) := by
 unfold S4.has S4.put
 rw [S4.w_set _ (by omega) _ _ (by omega)]
 by_cases h : j / 64 = i / 64
 ·rw [if_pos h,Nat.testBit_or,Nat.testBit_two_pow,h]
  by_cases h2 : i % 64 = j % 64
  ·have : j = i := by omega
   simp [h2,this]
  ·have : ¬ j = i := by omega
   simp [h2,this]
 ·have : ¬ j = i := by rintro rfl; exact h rfl
  simp [h,this]
theorem S4.join_ok {s t : S4} (h : s.ok) (g : t.ok) : (s.join t).ok := ⟨Ri h.1 g.1,Ri h.2.1 g.2.1,Ri h.2.2.1 g.2.2.1,Ri h.2.2.2 g.2.2.2⟩
theorem S4.join_has (s t : S4) (i : Nat) : (s.join t).has i = (s.has i || t.has i) := by
 unfold S4.has
 have : (s.join t).w (i / 64) = s.w (i / 64) ||| t.w (i / 64) := by
  unfold S4.w S4.join
  split <;> rfl
 rw [this,Nat.testBit_or]
theorem S4.zero_ok : S4.zero.ok := by decide
def S4.sm (s : S4) : Prop := s.ok ∧ ∀ i,i < 256 → s.has i = true → 97 ≤ i ∧ i < 103
instance (s : S4) : Decidable s.sm := inferInstanceAs (Decidable (_ ∧ _))
theorem S4.join_sm {s t : S4} (h : s.sm) (g : t.sm) : (s.join t).sm := ⟨S4.join_ok h.1 g.1,fun i hi hs => by
 rw [S4.join_has,Bool.or_eq_true] at hs
 rcases hs with hs | hs
 ·exact h.2 i hi hs
 ·exact g.2 i hi hs⟩
theorem S4.zero_has (i : Nat) : S4.zero.has i = false := by
 unfold S4.has S4.w S4.zero
 split <;> simp
theorem S4.zero_sm : S4.zero.sm := ⟨S4.zero_ok,fun i _ h => by rw [S4.zero_has] at h; cases h⟩
theorem S4.zero_iff {s : S4} (h : s.ok) : s = S4.zero ↔ ∀ i,i < 256 → s.has i = false := ⟨fun e i _ => by rw [e,S4.zero_has],fun k => S4.ext h S4.zero_ok fun i hi => by rw [k i hi,S4.zero_has]⟩
def S4.bytes (s : S4) : List Nat := (List.range 256).filter s.has
theorem QkE (p : Nat → Bool) (a n : Nat) : (List.range' a n).filter p = ((List.range n).filter fun i => p (a + i)).map (a + ·) := by
 rw [List.range'_eq_map_range,List.filter_map]
 rfl
theorem S4.allB_eq {s : S4} : Zi [s.a,s.b,s.c,s.d] 4 = s.bytes.map (fun i : Nat => (i : Int)) := by
 have e : List.range 256 = List.range' (0 * 64) 64 ++ (List.range' (1 * 64) 64 ++ (List.range' (2 * 64) 64 ++ List.range' (3 * 64) 64)) := by decide
 have k : ∀ j,j < 4 → (List.range' (j * 64) 64).filter s.has = (Bits.bl (s.w j)).map (fun i => j * 64 + i) := fun j hj => by
  rw [QkE]
  unfold Bits.bl
  congr 1
  refine List.filter_congr fun i hi => ?_
  have := List.mem_range.1 hi
  unfold S4.has
  rw [show (j * 64 + i) / 64 = j by omega,show (j * 64 + i) % 64 = i by omega]
 unfold S4.bytes
 rw [e,List.filter_append,List.filter_append,List.filter_append,k 0 (by omega),k 1 (by omega),k 2 (by omega),k 3 (by omega)]
 simp only [Zi,List.range,List.range.loop,List.flatMap_cons,List.flatMap_nil,List.append_nil,List.map_append,List.map_map,List.getD_cons_zero,List.getD_cons_succ,S4.w]
 rfl
theorem S4.sm_len {s : S4} (h : s.sm) : s.bytes.length ≤ 6 := by
 have e : s.bytes = ((List.range 256).filter fun i => decide (97 ≤ i) && decide (i < 103)).filter s.has := by
  unfold S4.bytes
  rw [List.filter_filter]
  refine List.filter_congr fun i hi => ?_
  cases hs : s.has i with
  | false => rfl
  | true =>
   have := h.2 i (List.mem_range.1 hi) hs
   simp [this.1,this.2]
 rw [e]
 exact Nat.le_trans (List.length_filter_le ..) (by decide +kernel)
theorem S4.bytes_len (s : S4) : s.bytes.length ≤ 256 := by
 have := List.length_filter_le s.has (List.range 256)
 simpa [S4.bytes] using this
theorem S4.zero_bytes {s : S4} (h : s.ok) : s = S4.zero ↔ s.bytes = [] := by
 rw [S4.zero_iff h]
 simp [S4.bytes,List.filter_eq_nil_iff]
theorem u64_or {x y : Nat} (hx : x < 18446744073709551616) (hy : y < 18446744073709551616) : IntKind.u64.wrap (((BitVec.ofInt IntKind.u64.bits (x : Int) ||| BitVec.ofInt IntKind.u64.bits (y : Int)).toNat : Nat) : Int) = ((x ||| y : Nat) : Int) := by
 have hb : IntKind.u64.bits = 64 := rfl
 rw [hb]
 have e1 : (BitVec.ofInt 64 (x : Int) ||| BitVec.ofInt 64 (y : Int)).toNat = x ||| y := by
  rw [BitVec.toNat_or,BitVec.ofInt_natCast,BitVec.ofInt_natCast,BitVec.toNat_ofNat,BitVec.toNat_ofNat,Nat.mod_eq_of_lt (by simpa using hx),Nat.mod_eq_of_lt (by simpa using hy)]
 rw [e1]
 have := Ri hx hy
 simp only [IntKind.wrap,IntKind.bits,IntKind.signed,Bool.false_and,Bool.false_eq_true,if_false,Int.reducePow]
 omega
theorem MJ {e x y : Nat} (hx : x < 18446744073709551616) (hy : y < 18446744073709551616) : Qb .or e (.int .u64 (x : Int)) (.int .u64 (y : Int)) = some (.int .u64 ((x ||| y : Nat) : Int)) := by
 rw [Qei,u64_or hx hy]
theorem QgG {e j : Nat} (hj : j < 64) : Qb .shl e (.int .u64 1) (.int .i64 (j : Int)) = some (.int .u64 ((2 ^ j : Nat) : Int)) := by
 rw [Qib (by omega)]
 have h1 : min ((j : Int)).toNat IntKind.u64.bits = j := by
  have : IntKind.u64.bits = 64 := rfl
  rw [this]; omega
 rw [h1]
 have := P0 hj
 have e1 : (1 : Int) * 2 ^ j = ((2 ^ j : Nat) : Int) := by rw [Int.one_mul]; norm_cast
 rw [e1]
 generalize 2 ^ j = p at this ⊢
 simp only [IntKind.wrap,IntKind.bits,IntKind.signed,Bool.false_and,Bool.false_eq_true,if_false,Int.reducePow]
 congr 2
 omega
theorem QmW {e x j : Nat} (hj : j < 64) : Qb .shr e (.int .u64 (x : Int)) (.int .i64 (j : Int)) = some (.int .u64 ((x / 2 ^ j : Nat) : Int)) := by
 rw [QbK (by omega)]
 have h1 : min ((j : Int)).toNat IntKind.u64.bits = j := by
  have : IntKind.u64.bits = 64 := rfl
  rw [this]; omega
 rw [h1]
 have e1 : ((x : Int)).fdiv (2 ^ j) = ((x / 2 ^ j : Nat) : Int) := by
  rw [Int.fdiv_eq_ediv_of_nonneg _ (by have := Nat.two_pow_pos j; exact_mod_cast Nat.zero_le _)]
  norm_cast
 rw [e1]
theorem QoW {e x : Nat} (hx : x < 18446744073709551616) : Qb .and e (.int .u64 (x : Int)) (.int .u64 1) = some (.int .u64 ((x % 2 : Nat) : Int)) := by
 rw [Qdy]
 have := QpQ (u := x) (k := 1) hx (by omega)
 simp only [Nat.pow_one,show (2 - 1 : Nat) = 1 from rfl] at this
 rw [show ((1 : Nat) : Int) = 1 from rfl] at this
 rw [this]
inductive X where
 | mk (k : Int) (s : S4) (ks : List X)
 deriving Inhabited
def X.k : X → Int | .mk k _ _ => k
def X.s : X → S4 | .mk _ s _ => s
def X.ks : X → List X | .mk _ _ ks => ks
mutual
def Qd : X → V
 | .mk k s ks => .agg [.int .i64 k,.int .u64 s.a,.int .u64 s.b,.int .u64 s.c,.int .u64 s.d,.vs (Qw ks)]
def Qw : List X → List V
 | [] => []
 | x :: l => Qd x :: Qw l
end
theorem WW (l : List X) : Qw l = l.map Qd := by
 induction l with
 | nil => rfl
 | cons e l ih => rw [Qw,ih]; rfl
@[simp] theorem Qbp (l : List X) : (Qw l).length = l.length := by rw [WW]; simp
mutual
theorem NY : ∀ x : X,(Qd x).clean = true
 | .mk k s ks => by simp only [Qd,V.clean,Q1,Qf7 ks,Bool.and_self]
theorem Qf7 : ∀ l : List X,Q1 (Qw l) = true
 | [] => rfl
 | e :: l => by rw [Qw,Q1,NY e,Qf7 l]; rfl
end
theorem Z0 : EncOK Qd 6 := ⟨by omega,fun x => by
 have := NY x
 cases x with
 | mk k s ks =>
  refine ⟨_,rfl,rfl,rfl,?_,?_,rfl⟩
  ·simpa [Qd,V.clean] using this
  ·intro c hc
   simp only [List.mem_cons,List.not_mem_nil,or_false] at hc
   rcases hc with rfl | rfl | rfl | rfl | rfl | rfl <;> rfl⟩
@[simp] theorem Qbg (e : X) : (Qd e).cells.length = 6 := Z0.cells e
@[simp] theorem Qbm (e : X) : Qv (Qd e).cells = true := Z0.scal e
@[simp] theorem Qbj (e : X) : (Qd e).maxRef = 0 := Z0.mr e
@[simp] theorem Qbn (e : X) : V.agg (List.take 6 (Qd e).cells) = Qd e := Z0.take e
@[simp] theorem Qbf (e : X) : V.agg (Qd e).cells = Qd e := Z0.aggc e
@[simp] theorem Qbk (e : X) : QX (Qd e).cells = 0 := Z0.mrc e
@[simp] theorem Qbo (e : X) : List.take 6 (Qd e).cells = (Qd e).cells := List.take_of_length_le (by simp)
@[simp] theorem Qbh (e : X) : List.drop 6 (Qd e).cells = [] := List.drop_of_length_le (by simp)
@[simp] theorem Qbi (H : Qa) (O n : Nat) (e : X) : Ye (frz H O (n + 1)) (Qd e).cells = some (Qd e).cells := by cases e; rfl
@[simp] theorem Qbl (O : Nat) (e : X) (H : Qa) : rt false O (Qd e) H = some (.ret (Qd e),Q2 H O) := Z0.rt O e H
@[simp] theorem Qfe (z : V) (e : X) : Zq 6 1 z [(0,Qd e)] = some (.vs [Qd e]) := Z0.lit z e
theorem Ub (e : X) : (Qd e).nrm = Qd e := Z0.nrm e
abbrev Qy (l : List X) : List V := ZK Qd l
mutual
def X.size : X → Nat
 | .mk _ _ ks => 1 + Qk ks
def Qk : List X → Nat
 | [] => 0
 | x :: l => x.size + Qk l
end
mutual
def X.ok : X → Prop
 | .mk _ s ks => s.sm ∧ oks ks
def oks : List X → Prop
 | [] => True
 | x :: l => x.ok ∧ oks l
end
theorem Rv {l : List X} : oks l ↔ ∀ x ∈ l,x.ok := by
 induction l with
 | nil => simp [oks]
 | cons x l ih => simp [oks,ih]
theorem X.ok_kids {x : X} (h : x.ok) : ∀ y ∈ x.ks,y.ok := by
 cases x with
 | mk k s ks => exact Rv.1 h.2
theorem X.ok_sm {x : X} (h : x.ok) : x.s.sm := by
 cases x with
 | mk k s ks => exact h.1
theorem X.ok_set {x : X} (h : x.ok) : x.s.ok := (X.ok_sm h).1
theorem M5 (l m : List X) : Qk (l ++ m) = Qk l + Qk m := by
 induction l with
 | nil => simp [Qk]
 | cons x l ih => simp only [List.cons_append,Qk,ih]; omega
theorem Yv {x : X} {l : List X} (h : x ∈ l) : x.size ≤ Qk l := by
 induction l with
 | nil => simp at h
 | cons y l ih =>
  rcases List.mem_cons.1 h with rfl | h
  ·simp only [Qk]; omega
  ·have := ih h; simp only [Qk]; omega
theorem Yl (x : X) : 0 < x.size := by cases x; simp only [X.size]; omega
theorem Yq (l : List X) : l.length ≤ Qk l := by
 induction l with
 | nil => simp
 | cons x l ih => have := Yl x; simp only [Qk,List.length_cons]; omega
theorem size_eq (x : X) : x.size = 1 + Qk x.ks := by cases x; rfl
mutual
def sameX : X → X → Bool
 | .mk k s ks,.mk k' s' ks' => decide (k = k') && decide (s = s') && Jg ks ks'
def Jg : List X → List X → Bool
 | [],[] => true
 | x :: l,y :: m => sameX x y && Jg l m
 | _,_ => false
end
mutual
theorem Rl : ∀ x : X,sameX x x = true
 | .mk k s ks => by simp [sameX,QcZ ks]
theorem QcZ : ∀ l : List X,Jg l l = true
 | [] => rfl
 | x :: l => by simp [Jg,Rl x,QcZ l]
end
def Yp (x : Int × Int) : List UInt8 := Lib.itoa x.1 ++ [45] ++ Lib.itoa x.2
def S4.rs (s : S4) : List (Int × Int) := rgs (s.bytes.map fun i : Nat => (i : Int))
def Y4 : Bool → List (List UInt8) → List UInt8
 | _,[] => []
 | b,x :: l => (if b then [] else [44]) ++ x ++ Y4 false l
theorem QmK (l : List (List UInt8)) : Y4 false l = Lib.joinTail [44] l := by
 induction l with
 | nil => rfl
 | cons x l ih => simp [Y4,Lib.joinTail,ih]
theorem Qa0 (l : List (List UInt8)) : Y4 true l = Lib.join l [44] := by
 cases l with
 | nil => rfl
 | cons x l => rw [Lib.join_cons]; simp [Y4,QmK]
def U5 (s : S4) : List UInt8 := [91] ++ Y4 true (s.rs.map Yp) ++ [93]
mutual
def txt : X → List UInt8
 | .mk k s ks => if k = 0 then [48] else if k = 1 then [49] else if k = 2 then U5 s else (txB k).2.1 ++ Yi (txB k).1 true ks ++ (txB k).2.2
def Yi (sep : List UInt8) : Bool → List X → List UInt8
 | _,[] => []
 | b,x :: l => (if b then [] else sep) ++ txt x ++ Yi sep false l
end
theorem Qnm {l : List (Int × Int)} {b : Int} {Q : Int → Prop} (h : ∀ x ∈ l,Q x.1 ∧ Q x.2) (hb : Q b) : ∀ x ∈ Z2 l b,Q x.1 ∧ Q x.2 := by
 unfold Z2
 split
 ·rename_i y hy
  have hm : y ∈ l := List.mem_of_getLast? hy
  split
  ·intro x hx
   rcases List.mem_append.1 hx with hx | hx
   ·exact h x (List.dropLast_subset _ hx)
   ·obtain rfl := List.mem_singleton.1 hx
    exact ⟨(h y hm).1,hb⟩
  ·intro x hx
   rcases List.mem_append.1 hx with hx | hx
   ·exact h x hx
   ·obtain rfl := List.mem_singleton.1 hx
    exact ⟨hb,hb⟩
 ·intro x hx
  obtain rfl := List.mem_singleton.1 hx
  exact ⟨hb,hb⟩
theorem Qa4 {Q : Int → Prop} : ∀ (xs : List Int) (l : List (Int × Int)),(∀ x ∈ l,Q x.1 ∧ Q x.2) → (∀ b ∈ xs,Q b) → ∀ x ∈ xs.foldl Z2 l,Q x.1 ∧ Q x.2
 | [],l,h,_ => h
 | b :: xs,l,h,k => Qa4 xs (Z2 l b) (Qnm h (k b List.mem_cons_self)) fun c hc => k c (List.mem_cons_of_mem _ hc)
theorem QqY (l : List (Int × Int)) (b : Int) : (Z2 l b).length ≤ l.length + 1 := by
 unfold Z2
 split
 ·split
  ·simp
  ·simp
 ·rename_i h
  simp
theorem Xo : ∀ (xs : List Int) (l : List (Int × Int)),(xs.foldl Z2 l).length ≤ l.length + xs.length
 | [],l => by simp
 | b :: xs,l => by
  have := Xo xs (Z2 l b)
  have h := QqY l b
  simp only [List.foldl_cons,List.length_cons]; omega
theorem S4.rs_mem (s : S4) : ∀ x ∈ s.rs,(0 ≤ x.1 ∧ x.1 ≤ 255) ∧ (0 ≤ x.2 ∧ x.2 ≤ 255) := by
 refine Qa4 (Q := fun b => 0 ≤ b ∧ b ≤ 255) _ [] (fun x hx => by simp at hx) fun b hb => ?_
 obtain ⟨i,hi,rfl⟩ := List.mem_map.1 hb
 have := List.mem_range.1 (List.mem_filter.1 hi).1
 omega
theorem S4.rs_len (s : S4) : s.rs.length ≤ 256 := by
 have := Xo (s.bytes.map fun i : Nat => (i : Int)) []
 have h := s.bytes_len
 unfold S4.rs rgs
 simp at this ⊢
 omega
theorem PO {n : Int} (h0 : 0 ≤ n) (h1 : n ≤ 255) : (Lib.itoa n).length ≤ 3 := by
 have : ∀ k : Nat,k ≤ 255 → (Lib.itoa (k : Int)).length ≤ 3 := by
  intro k hk
  unfold Lib.itoa
  rw [if_neg (by omega),show ((k : Int)).toNat = k by omega,Lib.decDigits]
  split
  ·simp
  ·rw [Lib.decDigits]
   split
   ·simp
   ·rw [Lib.decDigits,dif_pos (by omega)]; simp
 obtain ⟨k,rfl⟩ : ∃ k : Nat,n = k := ⟨n.toNat,by omega⟩
 exact this k (by omega)
theorem QbL {x : Int × Int} (h : (0 ≤ x.1 ∧ x.1 ≤ 255) ∧ (0 ≤ x.2 ∧ x.2 ≤ 255)) : (Yp x).length ≤ 7 := by
 have a := PO h.1.1 h.1.2
 have b := PO h.2.1 h.2.2
 simp [Yp]; omega
theorem QaN {l : List (List UInt8)} (h : ∀ x ∈ l,x.length ≤ 7) : ∀ b,(Y4 b l).length ≤ 8 * l.length := by
 induction l with
 | nil => intro b; simp [Y4]
 | cons x l ih =>
  intro b
  have h1 := ih (fun y hy => h y (List.mem_cons_of_mem _ hy)) false
  have h2 := h x List.mem_cons_self
  cases b <;> simp only [Y4,List.length_append,List.length_cons,List.length_nil,Bool.false_eq_true,if_false,if_true] <;> omega
theorem QhU {s : S4} (hs : s.sm) : (U5 s).length ≤ 50 := by
 have h := QaN (l := s.rs.map Yp) (fun x hx => by
  obtain ⟨y,hy,rfl⟩ := List.mem_map.1 hx
  exact QbL (s.rs_mem y hy)) true
 have h1 := Xo (s.bytes.map fun i : Nat => (i : Int)) []
 have h2 := S4.sm_len hs
 have h3 : s.rs.length ≤ 6 := by
  unfold S4.rs rgs
  simp at h1 ⊢
  omega
 simp [U5] at h ⊢
 omega
theorem EK (k : Int) : (txB k).1.length ≤ 1 ∧ (txB k).2.1.length ≤ 1 ∧ (txB k).2.2.length ≤ 1 := by
 unfold txB
 split
 ·simp
 ·split <;> simp
mutual
theorem Xs : ∀ {x : X},x.ok → (txt x).length + 1 ≤ 60 * x.size
 | .mk k s ks,hx => by
  have h := GP (txB k).1 (EK k).1 hx.2 true
  have h2 := EK k
  have h3 := QhU hx.1
  simp only [txt,X.size]
  split
  ·simp; omega
  ·split
   ·simp; omega
   ·split
    ·omega
    ·simp only [List.length_append]; omega
theorem GP (sep : List UInt8) (hs : sep.length ≤ 1) : ∀ {l : List X},oks l → ∀ b : Bool,(Yi sep b l).length ≤ 60 * Qk l
 | [],_,b => by simp [Yi]
 | x :: l,hx,b => by
  have h1 := Xs hx.1
  have h2 := GP sep hs hx.2 false
  have h3 := Yl x
  cases b <;> simp only [Yi,Qk,List.length_append,Bool.false_eq_true,if_false,if_true,List.length_nil] <;> omega
end
def flatK (k : Int) (l : List X) : List X := l.flatMap fun x => if x.k = k then x.ks else [x]
theorem QbB {k : Int} {l : List X} {i : Nat} (h : i < l.length) : flatK k (l.take (i + 1)) = flatK k (l.take i) ++ if l[i].k = k then l[i].ks else [l[i]] := by
 unfold flatK
 rw [List.take_succ_eq_append_getElem h,List.flatMap_append,List.flatMap_cons,List.flatMap_nil,List.append_nil]
theorem PM {k : Int} (l : List X) : (flatK k l).length ≤ Qk l := by
 induction l with
 | nil => simp [flatK]
 | cons x l ih =>
  have h1 := size_eq x
  have h2 := Yq x.ks
  simp only [flatK,List.flatMap_cons,List.length_append,Qk] at ih ⊢
  split
  ·omega
  ·have := Yl x; simp only [List.length_singleton]; omega
theorem Uy {k : Int} (l : List X) : Qk (flatK k l) ≤ Qk l := by
 induction l with
 | nil => simp [flatK,Qk]
 | cons x l ih =>
  have h1 := size_eq x
  simp only [flatK,List.flatMap_cons,M5,Qk] at ih ⊢
  split
  ·omega
  ·simp only [Qk]; omega
theorem XP {k : Int} (l : List X) (i : Nat) : (flatK k (l.take i)).length ≤ (flatK k l).length := by
 conv => rhs; rw [← List.take_append_drop i l]
 simp only [flatK,List.flatMap_append,List.length_append]; omega
theorem Pg {k : Int} {l : List X} (h : ∀ x ∈ l,x.ok) : ∀ x ∈ flatK k l,x.ok := fun x hx => by
 obtain ⟨y,hy,hx⟩ := List.mem_flatMap.1 hx
 split at hx
 ·exact X.ok_kids (h y hy) x hx
 ·obtain rfl := List.mem_singleton.1 hx; exact h x hy
def ofL (l : List X) (kind none : Int) : X := match l with
 | [] => .mk none S4.zero []
 | [x] => x
 | l => .mk kind S4.zero l
def Q8 (l : List X) : X :=
 if (flatK 3 l).any (fun x => decide (x.k = 0)) then .mk 0 S4.zero [] else ofL ((flatK 3 l).filter fun x => !decide (x.k = 1)) 3 1
end Go.X7
end
section
namespace Go.Srt
open Go.Lib
abbrev K := List UInt8
theorem QdW : ∀ a : K,compareBytes a a = 0
 | [] => rfl
 | a :: l => by
  have : ¬ a < a := UInt8.lt_irrefl a
  simp [compareBytes,this,QdW l]
theorem Ut : ∀ a b : K,compareBytes a b = -1 ∨ compareBytes a b = 0 ∨ compareBytes a b = 1
 | [],[] => .inr (.inl rfl)
 | [],_ :: _ => .inl rfl
 | _ :: _,[] => .inr (.inr rfl)
 | a :: l,b :: m => by
  unfold compareBytes
  split
  ·exact .inl rfl
  ·split
   ·exact .inr (.inr rfl)
   ·exact Ut l m
theorem Pr (a b : UInt8) (h1 : ¬ a < b) (h2 : ¬ b < a) : a = b := by
 rw [UInt8.not_lt] at h1 h2
 exact UInt8.le_antisymm h2 h1
theorem KY : ∀ a b : K,compareBytes b a = - compareBytes a b
 | [],[] => rfl
 | [],_ :: _ => rfl
 | _ :: _,[] => rfl
 | a :: l,b :: m => by
  unfold compareBytes
  by_cases h1 : a < b
  ·have h2 : ¬ b < a := UInt8.lt_asymm h1
   simp [h1,h2]
  ·by_cases h2 : b < a
   ·simp [h1,h2]
   ·simp [h1,h2,KY l m]
theorem UX : ∀ a b : K,compareBytes a b = 0 → a = b
 | [],[],_ => rfl
 | [],_ :: _,h => by simp [compareBytes] at h
 | _ :: _,[],h => by simp [compareBytes] at h
 | a :: l,b :: m,h => by
  unfold compareBytes at h
  by_cases h1 : a < b
  ·simp [h1] at h
  ·by_cases h2 : b < a
   ·simp [h1,h2] at h
   ·simp only [h1,h2,if_false] at h
    rw [Pr a b h1 h2,UX l m h]
theorem QaX : ∀ a b c : K,compareBytes a b < 0 → compareBytes b c < 0 → compareBytes a c < 0
 | [],[],_,h,_ => by simp [compareBytes] at h
 | [],_ :: _,[],_,h => by simp [compareBytes] at h
 | [],_ :: _,_ :: _,_,_ => by simp [compareBytes]
 | _ :: _,[],_,h,_ => by simp [compareBytes] at h
 | _ :: _,_ :: _,[],_,h => by simp [compareBytes] at h
 | a :: l,b :: m,c :: n,h1,h2 => by
  unfold compareBytes at h1 h2 ⊢
  by_cases ab : a < b
  ·by_cases bc : b < c
   ·simp [UInt8.lt_trans ab bc]
   ·by_cases cb : c < b
    ·simp [bc,cb] at h2
    ·have := Pr b c bc cb
     subst this
     simp [ab]
  ·by_cases ba : b < a
   ·simp [ab,ba] at h1
   ·have := Pr a b ab ba
    subst this
    by_cases bc : a < c
    ·simp [bc]
    ·by_cases cb : c < a
     ·simp [bc,cb] at h2
     ·simp only [ab,ba,bc,cb,if_false] at h1 h2 ⊢
      exact QaX l m n h1 h2
theorem RI : ∀ a b : K,Op.bytesLess a b = decide (compareBytes a b < 0)
 | [],[] => rfl
 | [],_ :: _ => rfl
 | _ :: _,[] => rfl
 | a :: l,b :: m => by
  unfold compareBytes Op.bytesLess
  by_cases h1 : a < b
  ·simp [h1]
  ·by_cases h2 : b < a
   ·have : (a == b) = false := by
     rw [beq_eq_false_iff_ne]
     rintro rfl
     exact h1 h2
    simp [h1,h2,this]
   ·have := Pr a b h1 h2
    subst this
    simp [h1,RI l m]
variable {α : Type} (key : α → K)
def lt (x y : α) : Prop := compareBytes (key x) (key y) < 0
variable {key}
theorem lt_asymm {x y : α} (h : lt key x y) : ¬ lt key y x := by
 unfold lt at *
 rw [KY]; omega
theorem P7 {x y : α} (h : lt key x y) : key x ≠ key y := fun e => by
 unfold lt at h
 rw [e,QdW] at h
 omega
theorem lt_trans {x y z : α} (h : lt key x y) (g : lt key y z) : lt key x z := QaX _ _ _ h g
theorem le_trans {x y z : α} (h : ¬ lt key y x) (g : ¬ lt key z y) : ¬ lt key z x := fun k => by
 rcases Ut (key x) (key y) with e | e | e
 ·exact g (lt_trans k (by unfold lt; omega))
 ·have := UX _ _ e
  unfold lt at g k
  rw [this] at k
  exact g k
 ·unfold lt at h
  rw [KY] at h
  omega
theorem X9 {x y z : α} (h : lt key x y) (g : ¬ lt key z y) : lt key x z := by
 rcases Ut (key x) (key z) with e | e | e
 ·unfold lt; omega
 ·have := UX _ _ e
  unfold lt at h g
  rw [this] at h
  exact absurd h g
 ·exfalso
  have : lt key z x := by unfold lt; rw [KY]; omega
  exact g (lt_trans this h)
theorem QfB {x y z : α} (h : ¬ lt key y x) (g : lt key y z) : lt key x z := by
 rcases Ut (key x) (key z) with e | e | e
 ·unfold lt; omega
 ·have := UX _ _ e
  unfold lt at h g
  rw [← this] at g
  exact absurd g h
 ·exfalso
  have : lt key z x := by unfold lt; rw [KY]; omega
  exact h (lt_trans g this)
abbrev Sd (key : α → K) (l : List α) : Prop := l.Pairwise fun x y => ¬ lt key y x
def St (key : α → K) (l l' : List α) : Prop := l'.length = l.length ∧ ∀ t,l'.filter (fun x => decide (key x = t)) = l.filter (fun x => decide (key x = t))
theorem St.refl (l : List α) : St key l l := ⟨rfl,fun _ => rfl⟩
theorem St.trans {l m n : List α} (h : St key l m) (g : St key m n) : St key l n := ⟨g.1.trans h.1,fun t => (g.2 t).trans (h.2 t)⟩
theorem St.append {l l' m m' : List α} (h : St key l l') (g : St key m m') : St key (l ++ m) (l' ++ m') := ⟨by simp [h.1,g.1],fun t => by rw [List.filter_append,List.filter_append,h.2,g.2]⟩
theorem St.mem {l l' : List α} (h : St key l l') (x : α) : x ∈ l' ↔ x ∈ l := by
 have := h.2 (key x)
 have e : ∀ m : List α,x ∈ m.filter (fun y => decide (key y = key x)) ↔ x ∈ m := fun m => by simp
 rw [← e l',← e l,this]
theorem St.swap {x y : List α} (h : ∀ u ∈ x,∀ v ∈ y,key u ≠ key v) : St key (x ++ y) (y ++ x) := ⟨by simp [Nat.add_comm],fun t => by
 simp only [List.filter_append]
 by_cases hx : x.filter (fun z => decide (key z = t)) = []
 ·rw [hx]; simp
 ·have hy : y.filter (fun z => decide (key z = t)) = [] := by
   rw [List.filter_eq_nil_iff]
   intro v hv hvt
   obtain ⟨u,hu⟩ := List.exists_mem_of_ne_nil _ hx
   have := List.mem_filter.1 hu
   exact h u this.1 v hv ((of_decide_eq_true this.2).trans (of_decide_eq_true hvt).symm)
  rw [hy]; simp⟩
theorem St.swapL {x y : List α} (h : ∀ u ∈ x,∀ v ∈ y,lt key v u) : St key (x ++ y) (y ++ x) := St.swap fun u hu v hv e => P7 (h u hu v hv) e.symm
theorem Sd.sub {l m : List α} (h : Sd key (l ++ m)) : Sd key l ∧ Sd key m := ⟨(List.pairwise_append.1 h).1,(List.pairwise_append.1 h).2.1⟩
theorem Sd.insert {S T : List α} {x : α} (h : Sd key (S ++ T)) (h1 : ∀ z ∈ S,¬ lt key x z) (h2 : ∀ z ∈ T,lt key x z) : Sd key (S ++ x :: T) := by
 obtain ⟨a,b,c⟩ := List.pairwise_append.1 h
 refine List.pairwise_append.2 ⟨a,List.pairwise_cons.2 ⟨fun z hz => lt_asymm (h2 z hz),b⟩,fun u hu v hv => ?_⟩
 rcases List.mem_cons.1 hv with rfl | hv
 ·exact h1 u hu
 ·exact c u hu v hv
theorem Sd.between {S T : List α} {x : α} (h : Sd key (S ++ T)) (h1 : ∀ z ∈ S,¬ lt key x z) (h2 : ∀ z ∈ T,¬ lt key z x) : Sd key (S ++ x :: T) := by
 obtain ⟨a,b,c⟩ := List.pairwise_append.1 h
 refine List.pairwise_append.2 ⟨a,List.pairwise_cons.2 ⟨fun z hz => h2 z hz,b⟩,fun u hu v hv => ?_⟩
 rcases List.mem_cons.1 hv with rfl | hv
 ·exact h1 u hu
 ·exact c u hu v hv
theorem Sd.upto {S T : List α} {x : α} (h : Sd key (S ++ x :: T)) : (∀ z ∈ S ++ [x],¬ lt key x z) ∧ (∀ z ∈ x :: T,¬ lt key z x) := by
 obtain ⟨a,b,c⟩ := List.pairwise_append.1 h
 have irr : ¬ lt key x x := fun k => lt_asymm k k
 constructor
 ·intro z hz
  rcases List.mem_append.1 hz with hz | hz
  ·exact c z hz x (by simp)
  ·obtain rfl := List.mem_singleton.1 hz; exact irr
 ·intro z hz
  rcases List.mem_cons.1 hz with rfl | hz
  ·exact irr
  ·exact (List.pairwise_cons.1 b).1 z hz
theorem Sd.last {S : List α} {x y : α} (h : Sd key (S ++ [y])) (hx : ¬ lt key x y) : ∀ z ∈ S ++ [y],¬ lt key x z := fun z hz => by
 rcases List.mem_append.1 hz with hz | hz
 ·exact le_trans ((List.pairwise_append.1 h).2.2 z hz y (by simp)) hx
 ·obtain rfl := List.mem_singleton.1 hz; exact hx
theorem Sd.join {C D : List α} (h : Sd key C) (g : Sd key D) (k : ∀ x ∈ C,∀ y ∈ D,¬ lt key y x) : Sd key (C ++ D) := List.pairwise_append.2 ⟨h,g,k⟩
end Go.Srt
end
section
namespace Go.X7
open Go Go.Ev Go.Srt
def Q3 (r : X) : List X → List X
 | [] => [r]
 | y :: l => if txt y = txt r then y :: l else if Op.bytesLess (txt r) (txt y) then r :: y :: l else y :: Q3 r l
def Zh (l : List X) : S4 := l.foldl (fun s x => if x.k = 2 then s.join x.s else s) S4.zero
def Zp (s : S4) : List X := if s = S4.zero then [] else [.mk 2 s []]
def Zy (m : List X) : List X := m.filter fun x => !decide (x.k = 0) && !decide (x.k = 2)
def Ze (l : List X) : X := ofL ((Zy (flatK 4 l)).foldl (fun a r => Q3 r a) (Zp (Zh (flatK 4 l)))) 4 0
def Yt (p : X) : List X → List X
 | [] => []
 | y :: l => if txt y = txt p then Yt y l else y :: Yt y l
def dd : List X → List X
 | [] => []
 | x :: l => x :: Yt x l
abbrev lX : X → X → Prop := lt txt
abbrev SS (l : List X) : Prop := l.Pairwise lX
abbrev Ft (t : K) (l : List X) : List X := l.filter fun x => decide (txt x = t)
theorem Ji (t : K) (x : X) (l : List X) : Ft t (x :: l) = Ft t [x] ++ Ft t l := by
 simp only [List.filter_cons,List.filter_nil]
 split <;> rfl
theorem Jt (t : K) (x : X) : Ft t [x] = if txt x = t then [x] else [] := by
 simp only [List.filter_cons,List.filter_nil,decide_eq_true_eq]
theorem SS.ft {l : List X} (h : SS l) (t : K) : (Ft t l).length ≤ 1 := by
 induction l with
 | nil => simp
 | cons x l ih =>
  obtain ⟨h1,h2⟩ := List.pairwise_cons.1 h
  have k := ih h2
  rw [Ji,Jt]
  by_cases e : txt x = t
  ·have : Ft t l = [] := List.filter_eq_nil_iff.2 fun y hy => by
    have h3 := P7 (h1 y hy)
    simp only [decide_eq_true_eq]
    intro h4
    exact h3 (e.trans h4.symm)
   rw [this,if_pos e]; simp
  ·rw [if_neg e]
   exact k
theorem SS.uniq : ∀ {l m : List X},SS l → SS m → (∀ t,Ft t l = Ft t m) → l = m
 | [],[],_,_,_ => rfl
 | [],y :: m,_,_,h => by have := h (txt y); simp at this
 | x :: l,[],_,_,h => by have := h (txt x); simp at this
 | x :: l,y :: m,hl,hm,h => by
  obtain ⟨a1,a2⟩ := List.pairwise_cons.1 hl
  obtain ⟨b1,b2⟩ := List.pairwise_cons.1 hm
  have irr : ∀ z : X,¬ lX z z := fun z k => lt_asymm k k
  have mem : ∀ z,z ∈ x :: l ↔ z ∈ y :: m := fun z => by
   have e : ∀ l : List X,z ∈ Ft (txt z) l ↔ z ∈ l := fun l => by simp
   rw [← e (x :: l),← e (y :: m),h]
  have hxy : x = y := by
   have hx := (mem x).1 List.mem_cons_self
   have hy := (mem y).2 List.mem_cons_self
   rcases List.mem_cons.1 hx with rfl | hx
   ·rfl
   ·rcases List.mem_cons.1 hy with rfl | hy
    ·rfl
    ·exact absurd (lt_trans (b1 x hx) (a1 y hy)) (irr y)
  subst hxy
  have : l = m := SS.uniq a2 b2 fun t => by
   have h5 := h t
   rw [Ji t x l,Ji t x m] at h5
   exact List.append_cancel_left h5
  rw [this]
theorem TJ (t : K) (a b : List X) : Ft t (a ++ b) = Ft t a ++ Ft t b := List.filter_append ..
theorem QjS (a b : List X) : (a.take 1 ++ b).take 1 = (a ++ b).take 1 := by
 cases a <;> simp
theorem QdS : ∀ (l : List X) (p : X),Sd txt (p :: l) → SS (Yt p l) ∧ (∀ z ∈ Yt p l,lX p z) ∧ ∀ t,Ft t (Yt p l) = if txt p = t then [] else (Ft t l).take 1
 | [],p,_ => ⟨List.Pairwise.nil,by simp [Yt],fun t => by simp [Yt]⟩
 | y :: l,p,h => by
  obtain ⟨h1,h2⟩ := List.pairwise_cons.1 h
  obtain ⟨k1,k2,k3⟩ := QdS l y h2
  have hpy := h1 y List.mem_cons_self
  unfold Yt
  by_cases e : txt y = txt p
  ·rw [if_pos e]
   refine ⟨k1,fun z hz => ?_,fun t => ?_⟩
   ·have := k2 z hz
    unfold lX lt at this ⊢
    rw [← e]; exact this
   ·rw [k3,e,Ji,Jt,e]
    by_cases ht : txt p = t
    ·simp [ht]
    ·simp [ht]
  ·rw [if_neg e]
   have hlt : lX p y := by
    rcases Ut (txt p) (txt y) with e1 | e1 | e1
    ·unfold lX lt; omega
    ·exact absurd (UX _ _ e1).symm e
    ·exfalso; apply hpy; unfold lt; rw [KY]; omega
   refine ⟨List.pairwise_cons.2 ⟨k2,k1⟩,fun z hz => ?_,fun t => ?_⟩
   ·rcases List.mem_cons.1 hz with rfl | hz
    ·exact hlt
    ·exact lt_trans hlt (k2 z hz)
   ·rw [Ji,Jt,k3,Ji,Jt]
    by_cases ht : txt y = t
    ·have : ¬ txt p = t := fun x => e (ht.trans x.symm)
     simp [ht,this]
    ·by_cases hp : txt p = t
     ·simp only [ht,hp,if_false,if_true,List.nil_append]
      have : Ft t l = [] := List.filter_eq_nil_iff.2 fun z hz => by
       simp only [decide_eq_true_eq]
       intro hz2
       have h3 : ¬ lX z y := (List.pairwise_cons.1 h2).1 z hz
       have : lX z y := by unfold lX lt at hlt ⊢; rw [hz2,← hp]; exact hlt
       exact h3 this
      rw [this]; rfl
     ·simp [ht,hp]
theorem QpN {l : List X} (h : Sd txt l) : SS (dd l) ∧ ∀ t,Ft t (dd l) = (Ft t l).take 1 := by
 cases l with
 | nil => exact ⟨List.Pairwise.nil,fun t => rfl⟩
 | cons x l =>
  obtain ⟨k1,k2,k3⟩ := QdS l x h
  refine ⟨List.pairwise_cons.2 ⟨k2,k1⟩,fun t => ?_⟩
  show Ft t (x :: Yt x l) = _
  rw [Ji,Jt,k3,Ji,Jt]
  by_cases e : txt x = t <;> simp [e]
theorem put_mem (r : X) : ∀ (l : List X) (z : X),z ∈ Q3 r l → z = r ∨ z ∈ l
 | [],z,h => by simp [Q3] at h; exact .inl h
 | y :: l,z,h => by
  unfold Q3 at h
  split at h
  ·exact .inr h
  ·split at h
   ·rcases List.mem_cons.1 h with h | h
    ·exact .inl h
    ·exact .inr h
   ·rcases List.mem_cons.1 h with h | h
    ·exact .inr (by simp [h])
    ·rcases put_mem r l z h with h | h
     ·exact .inl h
     ·exact .inr (by simp [h])
theorem put_ok (r : X) : ∀ {l : List X},SS l → SS (Q3 r l) ∧ ∀ t,Ft t (Q3 r l) = (Ft t l ++ Ft t [r]).take 1
 | [],_ => ⟨by simp [Q3],fun t => by
  rw [show Q3 r [] = [r] from rfl,Jt]
  split <;> rfl⟩
 | y :: l,h => by
  obtain ⟨h1,h2⟩ := List.pairwise_cons.1 h
  unfold Q3
  by_cases e : txt y = txt r
  ·rw [if_pos e]
   refine ⟨h,fun t => ?_⟩
   have hft := SS.ft h t
   rw [Jt]
   by_cases ht : txt r = t
   ·rw [if_pos ht,Ji,Jt,if_pos (e.trans ht)]
    rw [Ji,Jt,if_pos (e.trans ht)] at hft
    have : Ft t l = [] := List.length_eq_zero_iff.1 (by simp only [List.length_append,List.length_cons,List.length_nil] at hft; omega)
    rw [this]; rfl
   ·rw [if_neg ht,List.append_nil,List.take_of_length_le hft]
  ·rw [if_neg e]
   by_cases hlt : Op.bytesLess (txt r) (txt y) = true
   ·rw [if_pos hlt]
    rw [RI,decide_eq_true_eq] at hlt
    have hry : lX r y := hlt
    have hr : ∀ z ∈ y :: l,lX r z := fun z hz => by
     rcases List.mem_cons.1 hz with rfl | hz
     ·exact hry
     ·exact lt_trans hry (h1 z hz)
    refine ⟨List.pairwise_cons.2 ⟨hr,h⟩,fun t => ?_⟩
    rw [Ji t r,Jt]
    have hft := SS.ft h t
    by_cases ht : txt r = t
    ·have : Ft t (y :: l) = [] := List.filter_eq_nil_iff.2 fun z hz => by
      have := P7 (hr z hz)
      simp only [decide_eq_true_eq]
      rintro rfl
      exact this ht
     rw [this]; simp [ht]
    ·rw [if_neg ht,List.append_nil,List.take_of_length_le hft,List.nil_append]
   ·rw [if_neg hlt]
    rw [RI,decide_eq_true_eq] at hlt
    obtain ⟨k1,k2⟩ := put_ok r h2
    have hyr : lX y r := by
     rcases Ut (txt y) (txt r) with e1 | e1 | e1
     ·unfold lX lt; omega
     ·exact absurd (UX _ _ e1) e
     ·exfalso; apply hlt; rw [KY]; omega
    refine ⟨List.pairwise_cons.2 ⟨fun z hz => ?_,k1⟩,fun t => ?_⟩
    ·rcases put_mem r l z hz with rfl | hz
     ·exact hyr
     ·exact h1 z hz
    ·rw [Ji t y (Q3 r l),k2,Ji t y l,Jt t y]
     by_cases ht : txt y = t
     ·rw [if_pos ht]
      have hn : ¬ txt r = t := fun x => e (ht.trans x.symm)
      have : Ft t l = [] := List.filter_eq_nil_iff.2 fun z hz => by
       have := P7 (h1 z hz)
       simp only [decide_eq_true_eq]
       rintro rfl
       exact this ht
      rw [this,Jt,if_neg hn]
      rfl
     ·rw [if_neg ht,List.nil_append,List.nil_append]
theorem LQ : ∀ (o : List X) {b : List X},SS b → SS (o.foldl (fun a r => Q3 r a) b) ∧ ∀ t,Ft t (o.foldl (fun a r => Q3 r a) b) = (Ft t (b ++ o)).take 1
 | [],b,h => ⟨h,fun t => by rw [List.append_nil,List.take_of_length_le (SS.ft h t)]; rfl⟩
 | r :: o,b,h => by
  obtain ⟨k1,k2⟩ := put_ok r h
  obtain ⟨j1,j2⟩ := LQ o k1
  refine ⟨j1,fun t => ?_⟩
  rw [List.foldl_cons,j2,TJ,k2,QjS,TJ t b (r :: o),Ji t r o,← List.append_assoc]
theorem QhV {b o M : List X} (hb : SS b) (h : Sd txt M) (hs : St txt (b ++ o) M) : dd M = o.foldl (fun a r => Q3 r a) b := by
 obtain ⟨a1,a2⟩ := QpN h
 obtain ⟨b1,b2⟩ := LQ o hb
 refine SS.uniq a1 b1 fun t => ?_
 rw [a2,b2,show Ft t M = Ft t (b ++ o) from hs.2 t]
theorem Xg (s : S4) : SS (Zp s) := by
 unfold Zp
 split <;> simp
def Yn (s : S4) (l : List X) : S4 := l.foldl (fun s x => if x.k = 2 then s.join x.s else s) s
theorem Lm : ∀ {l : List X} {s : S4},s.sm → (∀ x ∈ l,x.ok) → (Yn s l).sm
 | [],s,h,_ => h
 | x :: l,s,h,k => by
  show (Yn (if x.k = 2 then s.join x.s else s) l).sm
  refine Lm ?_ fun y hy => k y (List.mem_cons_of_mem _ hy)
  split
  ·exact S4.join_sm h (X.ok_sm (k x List.mem_cons_self))
  ·exact h
theorem EB : ∀ (l : List X) (s : S4),Yn s (l.filter fun x => !decide (x.k = 0)) = Yn s l
 | [],s => rfl
 | x :: l,s => by
  rw [List.filter_cons]
  by_cases h : x.k = 0
  ·have : ¬ x.k = 2 := by omega
   simp only [h,decide_true,Bool.not_true,Bool.false_eq_true,if_false]
   rw [EB l s]
   unfold Yn
   rw [List.foldl_cons,if_neg this]
  ·simp only [h,decide_false,Bool.not_false,if_true]
   unfold Yn
   rw [List.foldl_cons,List.foldl_cons]
   exact EB l _
theorem BJ : ∀ {l : List X} (s : S4),(∀ x ∈ l,x.k ≠ 2) → Yn s l = s
 | [],s,_ => rfl
 | x :: l,s,h => by
  unfold Yn
  rw [List.foldl_cons,if_neg (h x List.mem_cons_self)]
  exact BJ s fun y hy => h y (List.mem_cons_of_mem _ hy)
theorem Qpa (m : List X) : (m.filter fun x => !decide (x.k = 0)).filter (fun x => !decide (x.k = 2)) = Zy m := by
 unfold Zy
 rw [List.filter_filter]
 congr 1
 funext x
 rw [Bool.and_comm]
theorem Qj3 {l : List X} {p : X → Bool} {x : X} (hx : x ∈ l) (hp : p x = false) : (l.filter p).length < l.length := by
 induction l with
 | nil => simp at hx
 | cons y l ih =>
  have h2 := List.length_filter_le p l
  rcases List.mem_cons.1 hx with rfl | hx
  ·rw [List.filter_cons,if_neg (by simp [hp])]
   simp only [List.length_cons]; omega
  ·have := ih hx
   rw [List.filter_cons]
   split
   ·simp only [List.length_cons]; omega
   ·simp only [List.length_cons]; omega
theorem QjR {m : List X} {x : X} (h : x ∈ Zy m) : x ∈ m := (List.mem_filter.1 h).1
def Jh (x : X) : X := if x.k = 0 ∨ x.k = 1 then .mk 1 S4.zero [] else if x.k = 5 then x else .mk 5 S4.zero [x]
theorem UH (k : Int) (s : S4) (ks : List X) : Jh (.mk k s ks) = if k = 0 ∨ k = 1 then .mk 1 S4.zero [] else if k = 5 then .mk k s ks else .mk 5 S4.zero [.mk k s ks] := rfl
def U4 (x : X) : Bool :=
 if x.k ≠ 2 ∧ x.s ≠ S4.zero then false
 else if x.k = 0 ∨ x.k = 1 then decide (x.ks.length = 0)
 else if x.k = 2 then decide (x.ks.length = 0) && !decide (x.s = S4.zero)
 else if x.k = 5 then decide (x.ks.length = 1) && sameX (Jh (x.ks.headD (.mk 0 S4.zero []))) x
 else if x.k = 3 then decide (1 < x.ks.length) && sameX (Q8 x.ks) x
 else if x.k = 4 then decide (1 < x.ks.length) && sameX (Ze x.ks) x
 else false
theorem Jo (k : Int) (s : S4) (ks : List X) : U4 (.mk k s ks) = if k ≠ 2 ∧ s ≠ S4.zero then false
 else if k = 0 ∨ k = 1 then decide (ks.length = 0)
 else if k = 2 then decide (ks.length = 0) && !decide (s = S4.zero)
 else if k = 5 then decide (ks.length = 1) && sameX (Jh (ks.headD (.mk 0 S4.zero []))) (.mk k s ks)
 else if k = 3 then decide (1 < ks.length) && sameX (Q8 ks) (.mk k s ks)
 else if k = 4 then decide (1 < ks.length) && sameX (Ze ks) (.mk k s ks)
 else false := rfl
mutual
def K9 : X → Bool
 | .mk k s ks => Wv ks && U4 (.mk k s ks)
def Wv : List X → Bool
 | [] => true
 | x :: l => K9 x && Wv l
end
theorem QnP (l : List X) : Wv l = l.all K9 := by
 induction l with
 | nil => rfl
 | cons x l ih => simp [Wv,ih]
theorem QgM (l : List X) (k n : Int) : (ofL l k n).size ≤ 1 + Qk l := by
 unfold ofL
 split
 ·simp [X.size,Qk]
 ·rename_i x; simp only [Qk]; omega
 ·simp only [X.size]; omega
theorem Rn (p : X → Bool) (l : List X) : Qk (l.filter p) ≤ Qk l := by
 induction l with
 | nil => simp
 | cons x l ih =>
  rw [List.filter_cons]
  split
  ·simp only [Qk]; omega
  ·simp only [Qk]; omega
theorem F6 (l : List X) : (Q8 l).size ≤ 1 + Qk l := by
 unfold Q8
 have h := Uy (k := 3) l
 split
 ·simp only [X.size,Qk]; omega
 ·have h1 := QgM ((flatK 3 l).filter fun x => !decide (x.k = 1)) 3 1
  have h2 := Rn (fun x => !decide (x.k = 1)) (flatK 3 l)
  omega
theorem Qnp (r : X) (l : List X) : Qk (Q3 r l) ≤ Qk l + r.size := by
 induction l with
 | nil => simp [Q3,Qk]
 | cons y l ih =>
  unfold Q3
  split
  ·simp only [Qk]; omega
  ·split
   ·simp only [Qk]; omega
   ·simp only [Qk]; omega
theorem CC : ∀ (o b : List X),Qk (o.foldl (fun a r => Q3 r a) b) ≤ Qk b + Qk o
 | [],b => by simp [Qk]
 | r :: o,b => by
  have h1 := CC o (Q3 r b)
  have h2 := Qnp r b
  simp only [List.foldl_cons,Qk]; omega
theorem G8 (l : List X) : (Ze l).size ≤ 2 + Qk l := by
 unfold Ze
 have h := Uy (k := 4) l
 have h1 := QgM ((Zy (flatK 4 l)).foldl (fun a r => Q3 r a) (Zp (Zh (flatK 4 l)))) 4 0
 have h2 := CC (Zy (flatK 4 l)) (Zp (Zh (flatK 4 l)))
 have h3 := Rn (fun x => !decide (x.k = 0) && !decide (x.k = 2)) (flatK 4 l)
 have h4 : Qk (Zp (Zh (flatK 4 l))) ≤ 1 := by unfold Zp; split <;> simp [Qk,X.size]
 unfold Zy at h1 h2
 unfold Zy
 omega
theorem QcT (x : X) : (Jh x).size ≤ 1 + x.size := by
 cases x with
 | mk k s ks =>
  rw [UH]
  split
  ·simp only [X.size,Qk]; omega
  ·split
   ·omega
   ·simp only [X.size,Qk]; omega
theorem QfS {l : List X} (h : ∀ x ∈ l,x.ok) (k n : Int) : (ofL l k n).ok := by
 unfold ofL
 split
 ·exact ⟨S4.zero_sm,trivial⟩
 ·exact h _ (by simp)
 ·exact ⟨S4.zero_sm,Rv.2 h⟩
theorem Mm {l : List X} (h : ∀ x ∈ l,x.ok) : (Q8 l).ok := by
 unfold Q8
 split
 ·exact ⟨S4.zero_sm,trivial⟩
 ·exact QfS (fun x hx => Pg (k := 3) h x (List.mem_filter.1 hx).1) _ _
theorem Cr : ∀ (o b : List X) (z : X),z ∈ o.foldl (fun a r => Q3 r a) b → z ∈ b ∨ z ∈ o
 | [],b,z,h => .inl h
 | r :: o,b,z,h => by
  rcases Cr o (Q3 r b) z h with h | h
  ·rcases put_mem r b z h with rfl | h
   ·exact .inr (by simp)
   ·exact .inl h
  ·exact .inr (by simp [h])
theorem C5 {l : List X} (h : ∀ x ∈ l,x.ok) : (Ze l).ok := by
 unfold Ze
 have hf := Pg (k := 4) h
 refine QfS (fun x hx => ?_) _ _
 rcases Cr _ _ x hx with hx | hx
 ·unfold Zp at hx
  split at hx
  ·simp at hx
  ·obtain rfl := List.mem_singleton.1 hx
   exact ⟨Lm S4.zero_sm hf,trivial⟩
 ·exact hf x (QjR hx)
theorem Qlk {x : X} (h : x.ok) : (Jh x).ok := by
 cases x with
 | mk k s ks =>
  rw [UH]
  split
  ·exact ⟨S4.zero_sm,trivial⟩
  ·split
   ·exact h
   ·exact ⟨S4.zero_sm,h,trivial⟩
end Go.X7
end
