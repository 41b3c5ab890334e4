/- Kx: a part of the proof that each law of this seat answers true at every input. No condition. -/
import Derived.Test.YthpghekebjadcaaEvF
set_option linter.unusedVariables false
set_option linter.unusedSimpArgs false
set_option maxRecDepth 20000
section
namespace Go.Ev
noncomputable section
abbrev KR := Option (Out × Qa)
def KLe (a b : KR) : Prop := ∀ x,a = some x → b = some x
theorem KLe.of {a b : KR} (h : a = b) : KLe a b := fun x hx => by rw [← h]; exact hx
theorem KLe.refl (a : KR) : KLe a a := fun _ h => h
theorem KLe.none (b : KR) : KLe none b := fun _ h => by cases h
theorem KLe.trans {a b c : KR} (h : KLe a b) (k : KLe b c) : KLe a c := fun x hx => k x (h x hx)
def kb (x : Option V) (k : V → KR) : KR := Option.rec none (fun v => k v) x
def ke (x : Option (V × Qa)) (k : V → Qa → KR) : KR := Option.rec none (fun r => Prod.rec (fun v h => k v h) r) x
def Qx (x : KR) (k : V → Qa → KR) : KR := Option.rec none (fun r => Prod.rec (fun o h => Out.rec (fun v => k v h) (fun _ => none) o) r) x
theorem Z1 {x y : Option V} (h : x = y) {k k' : V → KR} (hk : ∀ v,KLe (k v) (k' v)) : KLe (kb x k) (bnd y k') := by
 subst h; rw [YL]; intro z hz; cases x with
 | none => cases hz
 | some v => exact hk v z hz
theorem KP {x y : Option (V × Qa)} (h : x = y) {k k' : V → Qa → KR} (hk : ∀ v H,KLe (k v H) (k' v H)) : KLe (ke x k) (beff y k') := by
 subst h; rw [Wg]; intro z hz; cases x with
 | none => cases hz
 | some v => exact hk v.1 v.2 z hz
theorem YZ {x y : KR} (h : KLe x y) {k k' g : V → Qa → KR} (hk : ∀ v H,KLe (k v H) (k' v H)) : KLe (Qx x k) (bcall y k' g) := by
 intro z hz; rw [UT]; cases x with
 | none => cases hz
 | some v => obtain ⟨o,H⟩ := v; rw [h _ rfl]; cases o with
  | ret v => exact hk v H z hz
  | pan v => cases hz
def Qu (c : V) (a b : KR) : KR := VT c a b
theorem Qv {c : V} {a b a' b' : KR} (h : KLe a a') (h' : KLe b b') : KLe (Qu c a b) (cnd c a' b') := by
 rw [Uf]; unfold Qu VT; split
 ·exact h
 ·exact h'
 ·exact KLe.none _
def bq : Bool → Bool → Bool := fun a b => Bool.rec (Bool.rec true false b) b a
theorem M2 (a b : Bool) : bq a b = (a == b) := by cases a <;> cases b <;> rfl
def Qm (g : V) (w : Bool) (f : (V → KR) → KR) (k : V → KR) : KR :=
 match g with
 | .bool c => Bool.rec (k (.tup [])) (f k) (bq c w)
 | .tup _ => k (.tup [])
 | _ => none
def Bl (f : (V → KR) → KR) (x : Option V) : Prop := ∀ k k' : V → KR,(∀ v,KLe (k v) (k' v)) → KLe (f k) (bnd x k')
theorem Qn {g : V} {w : Bool} {f : (V → KR) → KR} {x : Option V} (hf : Bl f x) {k k' : V → KR} (hk : ∀ v,KLe (k v) (k' v)) : KLe (Qm g w f k) (bnd (gua g w x (some (.tup []))) k') := by
 rw [Br]; unfold Qm WS; split
 ·rename_i c; rw [M2]; cases hc : (c == w)
  ·simp only [hc,Bool.false_eq_true,if_false]; rw [YL]; exact hk _
  ·simp only [hc,if_true]; exact hf k k' hk
 ·rw [YL]; exact hk _
 ·exact KLe.none _
def Yo (g : V) (w : Bool) (x : KR) (H : Qa) (k : V → Qa → KR) : KR :=
 match g with
 | .bool c => Bool.rec (k (.tup []) H) (Qx x k) (bq c w)
 | .tup _ => k (.tup []) H
 | _ => none
theorem QrI {g : V} {w : Bool} {H : Qa} {x y : KR} (h : KLe x y) {k k' g' : V → Qa → KR} (hk : ∀ v H,KLe (k v H) (k' v H)) : KLe (Yo g w x H k) (bcall (gua g w y (some (.ret (.tup []),H))) k' g') := by
 rw [Br]; unfold Yo WS; split
 ·rename_i c; rw [M2]; cases hc : (c == w)
  ·simp only [hc,Bool.false_eq_true,if_false]; rw [UT]; exact hk _ _
  ·simp only [hc,if_true]; exact YZ h hk
 ·rw [UT]; exact hk _ _
 ·exact KLe.none _
def frc (n : Nat) (k : Nat → KR) : KR := Nat.rec (k 0) (fun m _ => k (Nat.succ m)) n
@[simp] theorem Z7 (n : Nat) (k : Nat → KR) : frc n k = k n := by cases n <;> rfl
def kif (b : Bool) (x y : KR) : KR := Bool.rec y x b
theorem YY (b : Bool) (x y : KR) : kif b x y = if b = true then x else y := by cases b <;> rfl
theorem UH {b : Bool} {x : KR} {z : Out × Qa} (h : kif b x none = some z) : b = true ∧ x = some z := by
 cases b
 ·cases h
 ·exact ⟨rfl,h⟩
def Ye {α : Type} (l : List α) : Nat := List.rec 0 (fun _ _ ih => Nat.succ ih) l
@[simp] theorem Z2 {α : Type} (l : List α) : Ye l = l.length := by
 induction l with
 | nil => rfl
 | cons a t ih => exact congrArg Nat.succ ih
def Qb0 {α : Type} (j : Nat) (l : List α) : Option α :=
 Nat.rec (motive := fun _ => List α → Option α) (fun l => List.rec none (fun a _ _ => some a) l) (fun _ ih l => List.rec none (fun _ t _ => ih t) l) j l
theorem QaA {α : Type} : ∀ (j : Nat) (l : List α),Qb0 j l = l[j]?
 | 0,[] => rfl
 | 0,a :: t => rfl
 | j + 1,[] => rfl
 | j + 1,a :: t => (QaA j t).trans (by simp)
def Vz {α : Type} (j : Nat) (l : List α) (k : α → KR) : KR := Option.rec none (fun a => k a) (Qb0 j l)
theorem Rc {α : Type} (k : α → KR) (j : Nat) (l : List α) : Vz j l k = (l[j]?).bind k := by
 unfold Vz; rw [QaA]; cases l[j]? <;> rfl
def NA {α : Type} (j : Nat) (l : List α) (a : α) (k : List α → KR) : KR :=
 Nat.rec (motive := fun _ => List α → (List α → KR) → KR) (fun l k => List.rec none (fun _ t _ => k (a :: t)) l) (fun _ ih l k => List.rec none (fun b t _ => ih t (fun t' => k (b :: t'))) l) j l k
theorem LK {α : Type} (a : α) : ∀ (j : Nat) (l : List α) (k : List α → KR),NA j l a k = if j < l.length then k (l.set j a) else none
 | 0,[],k => rfl
 | 0,b :: t,k => by simp; rfl
 | j + 1,[],k => rfl
 | j + 1,b :: t,k => by
  refine (LK a j t (fun t' => k (b :: t'))).trans ?_
  simp
def Kl {α : Type} (n : Nat) (l : List α) (k : List α → KR) : KR :=
 Nat.rec (motive := fun _ => List α → (List α → KR) → KR) (fun _ k => k []) (fun _ ih l k => List.rec none (fun b t _ => ih t (fun t' => k (b :: t'))) l) n l k
theorem Bv {α : Type} : ∀ (n : Nat) (l : List α) (k : List α → KR),Kl n l k = if n ≤ l.length then k (l.take n) else none
 | 0,l,k => by simp; rfl
 | n + 1,[],k => rfl
 | n + 1,b :: t,k => by
  refine (Bv n t (fun t' => k (b :: t'))).trans ?_
  simp
def Jn {α : Type} (n : Nat) (l : List α) (k : List α → KR) : KR :=
 Nat.rec (motive := fun _ => List α → KR) (fun l => k l) (fun _ ih l => List.rec none (fun _ t _ => ih t) l) n l
theorem BQ {α : Type} (k : List α → KR) : ∀ (n : Nat) (l : List α),Jn n l k = if n ≤ l.length then k (l.drop n) else none
 | 0,l => by simp; rfl
 | n + 1,[] => rfl
 | n + 1,b :: t => (BQ k n t).trans (by simp)
def Ku {α : Type} (l m : List α) (k : List α → KR) : KR :=
 List.rec (motive := fun _ => (List α → KR) → KR) (fun k => k m) (fun a _ ih k => ih (fun t => k (a :: t))) l k
theorem Uu {α : Type} (m : List α) : ∀ (l : List α) (k : List α → KR),Ku l m k = k (l ++ m)
 | [],k => rfl
 | a :: t,k => Uu m t (fun t' => k (a :: t'))
theorem DN (i : Nat) : ∀ (H : Qa),Q0 H i = if i < H.length then H[H.length - (i + 1)]? else none
 | [] => rfl
 | b :: H => by
  unfold Q0
  by_cases h : i = H.length
  ·subst h; simp
  ·rw [if_neg h,DN i H]
   by_cases h2 : i < H.length
   ·rw [if_pos h2,if_pos (by simp; omega)]
    have : (b :: H).length - (i + 1) = (H.length - (i + 1)) + 1 := by simp; omega
    rw [this]; simp
   ·rw [if_neg h2,if_neg (by simp; omega)]
theorem QbH (i : Nat) (x : Blk) : ∀ (H : Qa),i < H.length → ZV H i x = H.set (H.length - (i + 1)) x
 | [],h => by simp at h
 | b :: H,h => by
  unfold ZV
  by_cases h1 : i = H.length
  ·subst h1; simp
  ·rw [if_neg h1,QbH i x H (by simp at h; omega)]
   have : (b :: H).length - (i + 1) = (H.length - (i + 1)) + 1 := by simp at h ⊢; omega
   rw [this]; simp
def hgK (H : Qa) (i : Nat) (k : Blk → KR) : KR := kif (Nat.ble (Nat.succ i) (Ye H)) (Vz (Nat.sub (Ye H) (Nat.succ i)) H k) none
theorem Rb (H : Qa) (i : Nat) (k : Blk → KR) : hgK H i k = (Q0 H i).bind k := by
 unfold hgK
 rw [YY,DN,Z2,Rc]
 by_cases h : i < H.length
 ·rw [if_pos h,if_pos (by rw [Nat.ble_eq]; exact h)]; rfl
 ·rw [if_neg h,if_neg (by rw [Nat.ble_eq]; exact h)]; rfl
def hsK (H : Qa) (i : Nat) (b : Blk) (k : Qa → KR) : KR := NA (Nat.sub (Ye H) (Nat.succ i)) H b k
theorem Gt {H : Qa} {i : Nat} {c : Blk} (h : Q0 H i = some c) (b : Blk) (k : Qa → KR) : hsK H i b k = k (ZV H i b) := by
 have hi : i < H.length := by
  rw [DN] at h
  by_cases h2 : i < H.length
  ·exact h2
  ·rw [if_neg h2] at h; cases h
 unfold hsK
 rw [LK,Z2,QbH _ _ _ hi]
 simp only [Nat.sub_eq,Nat.succ_eq_add_one]
 rw [if_pos (by omega)]
def QT (x : V) (k : V → KR) : KR := k x
theorem QU {x : V} {k k' : V → KR} (h : ∀ v,KLe (k v) (k' v)) : KLe (QT x k) (bnd (Jw x) k') := Z1 (x := some x) (by rw [MV]; rfl) h
def QG (x : V) (k : V → KR) : KR := match x with
 | .ptr _ _ _ => k x
 | .fptr _ => k x
 | _ => none
theorem QI {x : V} {k k' : V → KR} (h : ∀ v,KLe (k v) (k' v)) : KLe (QG x k) (bnd (EP x) k') := by
 refine KLe.trans (KLe.of ?_) (Z1 (x := F9 x) (by rw [Mg]) h)
 cases x <;> rfl
def QQ (c a b : V) (k : V → KR) : KR := match c with
 | .bool t => Bool.rec (k b) (k a) t
 | _ => none
theorem QR {c a b : V} {k k' : V → KR} (h : ∀ v,KLe (k v) (k' v)) : KLe (QQ c a b k) (bnd (Cq c a b) k') := by
 refine KLe.trans (KLe.of ?_) (Z1 (x := FZ c a b) (by rw [LU]) h)
 cases c with
 | bool t => cases t <;> rfl
 | _ => rfl
theorem CF {n : Nat} (h : Nat.ble n 9223372036854775807 = true) : IntKind.i64.wrap (Int.ofNat n) = Int.ofNat n := by
 have h' : n ≤ 9223372036854775807 := Nat.le_of_ble_eq_true h
 simp only [IntKind.wrap,IntKind.bits,IntKind.signed,Nat.reduceSub,Int.reducePow,Bool.true_and,Int.ofNat_eq_natCast]
 split <;> rename_i h <;> simp at h <;> omega
theorem Qn2 {n : Nat} (h : Nat.ble n 255 = true) : IntKind.u8.wrap (Int.ofNat n) = Int.ofNat n := by
 have h' : n ≤ 255 := Nat.le_of_ble_eq_true h
 simp only [IntKind.wrap,IntKind.bits,IntKind.signed,Bool.false_and,Bool.false_eq_true,if_false,Int.reducePow,Int.ofNat_eq_natCast]
 omega
def isI : IntKind → Bool := fun a => IntKind.rec false false false true false false false false a
theorem VP {a : IntKind} (h : isI a = true) : a = .i64 := by cases a <;> first | rfl | cases h
def isU : IntKind → Bool := fun a => IntKind.rec false false false false true false false false a
theorem QmC {a : IntKind} (h : isU a = true) : a = .u8 := by cases a <;> first | rfl | cases h
def k2 (x y : V) (f : Nat → Nat → KR) (d : KR) : KR := match x,y with
 | .int a (.ofNat m),.int b (.ofNat n) => kif (isI a) (kif (isI b) (f m n) d) d
 | _,_ => d
theorem Rh {x y : V} {f : Nat → Nat → KR} {d : KR} (h : ∀ m n,x = .int .i64 (.ofNat m) → y = .int .i64 (.ofNat n) → f m n = d) : k2 x y f d = d := by
 unfold k2
 split
 ·rename_i a m b n
  rw [YY,YY]
  split
  ·rename_i h1
   split
   ·rename_i h2
    rw [VP h1,VP h2] at h
    exact h m n rfl rfl
   ·rfl
  ·rfl
 ·rfl
def KI (n : Nat) (k : V → KR) : KR := frc n fun n => k (.int .i64 (.ofNat n))
def QL (x y : V) (k : V → KR) : KR := k2 x y (fun m n => kif (Nat.ble (Nat.add m n) 9223372036854775807) (KI (Nat.add m n) k) (kb (Ym .add 6 x y) k)) (kb (Ym .add 6 x y) k)
theorem QN {x y : V} {k k' : V → KR} (h : ∀ v,KLe (k v) (k' v)) : KLe (QL x y k) (bnd (Kn .add 6 x y) k') := by
 refine KLe.trans (KLe.of (Rh ?_)) (Z1 (by rw [Kg]) h)
 rintro m n rfl rfl
 rw [YY]
 split
 ·rename_i hb
  simp only [KI,Z7]
  have : Ym .add 6 (.int .i64 (.ofNat m)) (.int .i64 (.ofNat n)) = some (.int .i64 (.ofNat (m + n))) := by
   have := CF hb
   simp only [Ym,Wb,KM,WU,if_true]
   exact congrArg (fun z => some (V.int .i64 z)) this
  rw [this]; rfl
 ·rfl
def WM (x y : V) (k : V → KR) : KR := k2 x y (fun m n => kif (Nat.ble n m) (kif (Nat.ble (Nat.sub m n) 9223372036854775807) (KI (Nat.sub m n) k) (kb (Ym .sub 6 x y) k)) (kb (Ym .sub 6 x y) k)) (kb (Ym .sub 6 x y) k)
theorem VA {x y : V} {k k' : V → KR} (h : ∀ v,KLe (k v) (k' v)) : KLe (WM x y k) (bnd (Kn .sub 6 x y) k') := by
 refine KLe.trans (KLe.of (Rh ?_)) (Z1 (by rw [Kg]) h)
 rintro m n rfl rfl
 rw [YY,YY]
 split
 ·rename_i ha
  split
  ·rename_i hb
   simp only [KI,Z7]
   have hle : n ≤ m := Nat.le_of_ble_eq_true ha
   have : Ym .sub 6 (.int .i64 (.ofNat m)) (.int .i64 (.ofNat n)) = some (.int .i64 (.ofNat (m - n))) := by
    have h1 := CF hb
    have h2 : (Int.ofNat m - Int.ofNat n) = Int.ofNat (m - n) := by simp only [Int.ofNat_eq_natCast]; omega
    simp only [Ym,Wb,KM,WU,if_true]
    rw [h2]
    exact congrArg (fun z => some (V.int .i64 z)) h1
   rw [this]; rfl
  ·rfl
 ·rfl
def Ra (b : Bool) (k : V → KR) : KR := Bool.rec (k (.bool false)) (k (.bool true)) b
theorem BC (b : Bool) (k : V → KR) : Ra b k = k (.bool b) := by cases b <;> rfl
def Ze (x y : V) (k : V → KR) : KR := k2 x y (fun m n => Ra (Nat.ble (Nat.succ m) n) k) (kb (Ym .lss 6 x y) k)
theorem Zh {x y : V} {k k' : V → KR} (h : ∀ v,KLe (k v) (k' v)) : KLe (Ze x y k) (bnd (Kn .lss 6 x y) k') := by
 refine KLe.trans (KLe.of (Rh ?_)) (Z1 (by rw [Kg]) h)
 rintro m n rfl rfl
 rw [BC]
 have : Ym .lss 6 (.int .i64 (.ofNat m)) (.int .i64 (.ofNat n)) = some (.bool (Nat.ble (Nat.succ m) n)) := by
  simp only [Ym,Wb,KM,WU,if_true]
  congr 2
  rw [Bool.eq_iff_iff,decide_eq_true_eq,Nat.ble_eq]; simp only [Int.ofNat_eq_natCast]; omega
 rw [this]; rfl
def Jp (x y : V) (k : V → KR) : KR := k2 x y (fun m n => Ra (Nat.ble m n) k) (kb (Ym .leq 6 x y) k)
theorem JM {x y : V} {k k' : V → KR} (h : ∀ v,KLe (k v) (k' v)) : KLe (Jp x y k) (bnd (Kn .leq 6 x y) k') := by
 refine KLe.trans (KLe.of (Rh ?_)) (Z1 (by rw [Kg]) h)
 rintro m n rfl rfl
 rw [BC]
 have : Ym .leq 6 (.int .i64 (.ofNat m)) (.int .i64 (.ofNat n)) = some (.bool (Nat.ble m n)) := by
  simp only [Ym,Wb,KM,WU,if_true]
  congr 2
  rw [Bool.eq_iff_iff,decide_eq_true_eq,Nat.ble_eq]; simp only [Int.ofNat_eq_natCast]; omega
 rw [this]; rfl
def YE (x y : V) (k : V → KR) : KR := k2 x y (fun m n => Ra (Nat.ble (Nat.succ n) m) k) (kb (Ym .gtr 6 x y) k)
theorem YH {x y : V} {k k' : V → KR} (h : ∀ v,KLe (k v) (k' v)) : KLe (YE x y k) (bnd (Kn .gtr 6 x y) k') := by
 refine KLe.trans (KLe.of (Rh ?_)) (Z1 (by rw [Kg]) h)
 rintro m n rfl rfl
 rw [BC]
 have : Ym .gtr 6 (.int .i64 (.ofNat m)) (.int .i64 (.ofNat n)) = some (.bool (Nat.ble (Nat.succ n) m)) := by
  simp only [Ym,Wb,KM,WU,if_true]
  congr 2
  rw [Bool.eq_iff_iff,decide_eq_true_eq,Nat.ble_eq]; simp only [Int.ofNat_eq_natCast]; omega
 rw [this]; rfl
def YA (x y : V) (k : V → KR) : KR := k2 x y (fun m n => Ra (Nat.ble n m) k) (kb (Ym .geq 6 x y) k)
theorem YD {x y : V} {k k' : V → KR} (h : ∀ v,KLe (k v) (k' v)) : KLe (YA x y k) (bnd (Kn .geq 6 x y) k') := by
 refine KLe.trans (KLe.of (Rh ?_)) (Z1 (by rw [Kg]) h)
 rintro m n rfl rfl
 rw [BC]
 have : Ym .geq 6 (.int .i64 (.ofNat m)) (.int .i64 (.ofNat n)) = some (.bool (Nat.ble n m)) := by
  simp only [Ym,Wb,KM,WU,if_true]
  congr 2
  rw [Bool.eq_iff_iff,decide_eq_true_eq,Nat.ble_eq]; simp only [Int.ofNat_eq_natCast]; omega
 rw [this]; rfl
def eqB (s t : List UInt8) : Bool := List.rec (motive := fun _ => List UInt8 → Bool) (fun t => List.rec true (fun _ _ _ => false) t) (fun a _ ih t => List.rec false (fun b t' _ => Bool.rec false (ih t') (Nat.beq a.toNat b.toNat)) t) s t
theorem PL : ∀ s t : List UInt8,eqB s t = (s == t)
 | [],[] => rfl
 | [],_ :: _ => rfl
 | a :: s,[] => rfl
 | a :: s,b :: t => by
  show (Bool.rec false (eqB s t) (Nat.beq a.toNat b.toNat) : Bool) = _
  rw [PL s t]
  cases h : Nat.beq a.toNat b.toNat
  ·have : a ≠ b := fun e => by rw [e] at h; simp at h
   simp [List.cons_beq_cons,this]
  ·have : a = b := UInt8.toNat_inj.1 (Nat.eq_of_beq_eq_true h)
   simp [this]
def kEq (x y : V) (f : Bool → KR) (d : KR) : KR := match x,y with
 | .int a (.ofNat m),.int b (.ofNat n) => kif (isI a) (kif (isI b) (f (Nat.beq m n)) d) d
 | .str s,.str t => f (eqB s t)
 | _,_ => d
def Xg (b : Bool) (k : V → KR) : KR := Bool.rec (k (.bool true)) (k (.bool false)) b
def QP (x y : V) (k : V → KR) : KR := kEq x y (fun b => Ra b k) (kb (Ym .eql 6 x y) k)
def Yi (x y : V) (k : V → KR) : KR := kEq x y (fun b => Xg b k) (kb (Ym .neq 6 x y) k)
theorem TL (m n : Nat) : (Int.ofNat m == Int.ofNat n) = Nat.beq m n := by
 rw [Bool.eq_iff_iff,beq_iff_eq,Nat.beq_eq]; simp only [Int.ofNat_eq_natCast]; omega
theorem QS {x y : V} {k k' : V → KR} (h : ∀ v,KLe (k v) (k' v)) : KLe (QP x y k) (bnd (Kn .eql 6 x y) k') := by
 refine KLe.trans (KLe.of ?_) (Z1 (x := Ym .eql 6 x y) (by rw [Kg]) h)
 unfold QP kEq
 split
 ·rename_i a m b n
  rw [YY,YY]
  split
  ·rename_i h1
   split
   ·rename_i h2
    rw [VP h1,VP h2]; refine (BC _ k).trans ?_; rw [← TL]; rfl
   ·rfl
  ·rfl
 ·refine (BC _ k).trans ?_; rw [PL]; rfl
 ·rfl
theorem Yl {x y : V} {k k' : V → KR} (h : ∀ v,KLe (k v) (k' v)) : KLe (Yi x y k) (bnd (Kn .neq 6 x y) k') := by
 refine KLe.trans (KLe.of ?_) (Z1 (x := Ym .neq 6 x y) (by rw [Kg]) h)
 have hn : ∀ b,Xg b k = k (.bool !b) := fun b => by cases b <;> rfl
 unfold Yi kEq
 split
 ·rename_i a m b n
  rw [YY,YY]
  split
  ·rename_i h1
   split
   ·rename_i h2
    rw [VP h1,VP h2]; refine (hn _).trans ?_; rw [← TL]; rfl
   ·rfl
  ·rfl
 ·refine (hn _).trans ?_; rw [PL]; rfl
 ·rfl
def Ji (op : BinOp) (e : Nat) (x y : V) (k : V → KR) : KR := kb (Ym op e x y) k
theorem Jr {op : BinOp} {e : Nat} {x y : V} {k k' : V → KR} (h : ∀ v,KLe (k v) (k' v)) : KLe (Ji op e x y k) (bnd (Kn op e x y) k') := Z1 (by rw [Kg]) h
def Yp (x : V) (k : V → KR) : KR := match x with
 | .bool b => Xg b k
 | _ => none
theorem Yt {x : V} {k k' : V → KR} (h : ∀ v,KLe (k v) (k' v)) : KLe (Yp x k) (bnd (oUn .not x) k') := by
 refine KLe.trans ?_ (Z1 (x := vUn .not x) (by rw [R5]) h)
 unfold Yp
 split
 ·rename_i b; cases b <;> exact KLe.refl _
 ·exact KLe.none _
def UN (kd : IntKind) (x : V) (k : V → KR) : KR := match x with
 | .int _ (.ofNat n) => kif (isI kd) (kif (Nat.ble n 9223372036854775807) (KI n k) (kb (WW kd x) k)) (kif (isU kd) (kif (Nat.ble n 255) (frc n fun n => k (.int .u8 (.ofNat n))) (kb (WW kd x) k)) (kb (WW kd x) k))
 | _ => kb (WW kd x) k
theorem R8 {kd : IntKind} {x : V} {k k' : V → KR} (h : ∀ v,KLe (k v) (k' v)) : KLe (UN kd x k) (bnd (NN kd x) k') := by
 refine KLe.trans (KLe.of ?_) (Z1 (x := WW kd x) (by rw [Rl]) h)
 unfold UN
 split
 ·rename_i n
  simp only [YY,KI,Z7]
  split
  ·rename_i h1
   rw [VP h1]
   split
   ·rename_i h2
    exact congrArg (fun z => k (V.int .i64 z)) (CF h2).symm
   ·rfl
  ·split
   ·rename_i h1
    rw [QmC h1]
    split
    ·rename_i h2
     exact congrArg (fun z => k (V.int .u8 z)) (Qn2 h2).symm
    ·rfl
   ·rfl
 ·rfl
def We (x : V) (k : V → KR) : KR := match x with
 | .str s => KI (Ye s) k
 | _ => none
theorem Vg {x : V} {k k' : V → KR} (h : ∀ v,KLe (k v) (k' v)) : KLe (We x k) (bnd (Xl x) k') := by
 refine KLe.trans (KLe.of ?_) (Z1 (x := FI x) (by rw [N6]) h)
 cases x with
 | str s => simp [We,KI]; rfl
 | _ => rfl
def Zb (x : V) (k : V → KR) : KR := match x with
 | .rs _ _ _ _ n => KI n k
 | .vs xs => KI (Ye xs) k
 | .nils => KI 0 k
 | _ => none
theorem Zf {x : V} {k k' : V → KR} (h : ∀ v,KLe (k v) (k' v)) : KLe (Zb x k) (bnd (Cz x) k') := by
 refine KLe.trans ?_ (Z1 (x := LN x) (by rw [NY]) h)
 unfold Zb LN Yr
 split <;> first | exact KLe.none _ | (simp [KI]; exact KLe.refl _)
def J7 (x i : V) (k : V → KR) : KR := match x,i with
 | .str s,.int _ (.ofNat n) => Vz n s fun b => frc b.toNat fun m => k (.int .u8 (.ofNat m))
 | _,_ => none
theorem KZ {x i : V} {k k' : V → KR} (h : ∀ v,KLe (k v) (k' v)) : KLe (J7 x i k) (bnd (Aj x i) k') := by
 refine KLe.trans ?_ (Z1 (x := B8 x i) (by rw [NX]) h)
 unfold J7
 split
 ·rename_i s a n
  rw [Rc]
  have : B8 (.str s) (.int a (.ofNat n)) = (s[n]?).map fun b => .int .u8 b.toNat := by
   simp only [B8,Y0]
   rw [if_pos (by simp)]
   rfl
  rw [this]
  cases s[n]? with
  | none => exact KLe.none _
  | some b => simp; exact KLe.refl _
 ·exact KLe.none _
def Qq (p : V) (off : Nat) (k : V → KR) : KR := match p with
 | .ptr i v o => frc (Nat.add o off) fun o => k (.ptr i v o)
 | .fptr cs => Jn off cs fun cs => k (.fptr cs)
 | _ => none
theorem Qr {p : V} {off : Nat} {k k' : V → KR} (h : ∀ v,KLe (k v) (k' v)) : KLe (Qq p off k) (bnd (AV p off) k') := by
 refine KLe.trans ?_ (Z1 (x := K1 p off) (by rw [Pg]) h)
 unfold Qq K1
 split
 ·simp; exact KLe.refl _
 ·rw [BQ]
  split
  ·rename_i h1; simp only [if_pos h1]; exact KLe.refl _
  ·exact KLe.none _
 ·exact KLe.none _
def FE (off : Nat) (ag : Bool) (n : Nat) (x : V) (k : V → KR) : KR := kb (ME off ag n x) k
theorem ER {off : Nat} {ag : Bool} {n : Nat} {x : V} {k k' : V → KR} (h : ∀ v,KLe (k v) (k' v)) : KLe (FE off ag n x k) (bnd (DG off ag n x) k') := Z1 (by rw [L5]) h
def QM (sz : Nat) (x i : V) (k : V → KR) : KR := match i with
 | .int _ (.ofNat n) => match x with
  | .rs b ver s off m => kif (Nat.ble (Nat.succ n) m) (kif (Nat.beq s sz) (frc (Nat.mul (Nat.add off n) sz) fun o => k (.ptr b ver o)) none) none
  | .vs xs => Vz n xs fun y => match y with
   | .agg cs => kif (Nat.beq (Ye cs) sz) (k (.fptr cs)) none
   | _ => kif (Nat.beq 1 sz) (k (.fptr [y])) none
  | _ => none
 | _ => none
theorem QO {sz : Nat} {x i : V} {k k' : V → KR} (h : ∀ v,KLe (k v) (k' v)) : KLe (QM sz x i k) (bnd (Gl sz x i) k') := by
 refine KLe.trans ?_ (Z1 (x := RJ sz x i) (by rw [Ln]) h)
 unfold QM
 split
 ·rename_i a n
  have hn : ∀ y,RJ sz y (.int a (.ofNat n)) = Vm sz y n := fun y => by
   simp only [RJ,Y0]
   rw [if_pos (by simp)]
   rfl
  rw [hn]
  split
  ·rename_i b ver s off m
   rw [YY,YY]
   split
   ·rename_i h1
    split
    ·rename_i h2
     have e1 : n < m := Nat.le_of_ble_eq_true h1
     have e2 : s = sz := Nat.eq_of_beq_eq_true h2
     simp only [Vm,if_pos (And.intro e1 e2),Z7]
     exact KLe.refl _
    ·exact KLe.none _
   ·exact KLe.none _
  ·rename_i xs
   rw [Rc]
   cases hx : xs[n]? with
   | none => exact KLe.none _
   | some y =>
    simp only [Option.bind_some,Vm,hx]
    have hc : ∀ (cs : List V),y.cells = cs → KLe (kif (Nat.beq cs.length sz) (k (.fptr cs)) none) (kb (if y.cells.length = sz then some (V.fptr y.cells) else none) k) := by
     rintro cs rfl
     rw [YY]
     split
     ·rename_i h1; rw [if_pos (Nat.eq_of_beq_eq_true h1)]; exact KLe.refl _
     ·exact KLe.none _
    split
    ·rename_i cs; rw [Z2]; exact hc cs rfl
    ·rename_i hne
     have : y.cells = [y] := by cases y <;> first | rfl | exact (hne _ rfl).elim
     exact hc [y] this
  ·exact KLe.none _
 ·exact KLe.none _
def Ph (ag : Bool) (n off : Nat) (cs : List V) (k : V → KR) : KR := Bool.rec (kif (Nat.beq n 1) (Vz off cs k) none) (Jn off cs fun l => Kl n l fun xs => k (.agg xs)) ag
theorem Cv (ag : Bool) (n off : Nat) (cs : List V) (k : V → KR) : KLe (Ph ag n off cs k) (kb (Kf ag n (cs.drop off)) k) := by
 unfold Ph Kf
 cases ag
 ·simp only []
  rw [YY,Rc]
  split
  ·rename_i h1
   have : n = 1 := Nat.eq_of_beq_eq_true h1
   subst this
   cases hc : cs[off]? with
   | none => exact KLe.none _
   | some v =>
    have hl : off < cs.length := (List.getElem?_eq_some_iff.1 hc).1
    rw [if_pos (by simp; omega)]
    simp only [Bool.false_eq_true,if_false,if_true]
    rw [List.head?_drop,hc]
    exact KLe.refl _
  ·exact KLe.none _
 ·simp only []
  rw [BQ]
  split
  ·rw [Bv]
   split
   ·exact KLe.refl _
   ·exact KLe.none _
  ·exact KLe.none _
def Qk (ag : Bool) (n : Nat) (H : Qa) (p : V) (k : V → KR) : KR := match p with
 | .ptr i ver off => hgK H i fun b => match b with
  | .var cs => kif (Nat.beq ver 0) (Ph ag n off cs k) none
  | .row v _ _ cs => kif (Nat.beq ver v) (Ph ag n off cs k) none
  | _ => none
 | .fptr cs => Ph ag n 0 cs k
 | _ => none
theorem BP {α : Type} {x : Option α} {f : α → KR} {b : KR} (h : ∀ a,x = some a → KLe (f a) b) : KLe (x.bind f) b := by
 cases x with
 | none => exact KLe.none _
 | some a => exact h a rfl
theorem QdQ (ag : Bool) (n : Nat) (H : Qa) (p : V) (k : V → KR) : KLe (Qk ag n H p k) (kb (Kj ag n H p) k) := by
 unfold Qk
 split
 ·rename_i i ver off
  rw [Rb]
  refine BP fun b hb => ?_
  split
  ·rename_i cs
   rw [YY]
   split
   ·rename_i h1; have : ver = 0 := Nat.eq_of_beq_eq_true h1
    have e : Kj ag n H (.ptr i ver off) = Kf ag n (cs.drop off) := by simp [Kj,VM,hb,this]
    rw [e]; exact Cv _ _ _ _ _
   ·exact KLe.none _
  ·rename_i v _ _ cs
   rw [YY]
   split
   ·rename_i h1; have : ver = v := Nat.eq_of_beq_eq_true h1
    have e : Kj ag n H (.ptr i ver off) = Kf ag n (cs.drop off) := by simp [Kj,VM,hb,this]
    rw [e]; exact Cv _ _ _ _ _
   ·exact KLe.none _
  ·exact KLe.none _
 ·exact Cv ag n 0 _ k
 ·exact KLe.none _
theorem Ql {ag : Bool} {n : Nat} {H : Qa} {p : V} {k k' : V → KR} (h : ∀ v,KLe (k v) (k' v)) : KLe (Qk ag n H p k) (bnd (QF ag n H p) k') :=
 (QdQ ag n H p k).trans (Z1 (by rw [Bz]) h)
end
end Go.Ev
end
section
namespace Go.Ev
noncomputable section
def scB (v : V) : Bool := V.rec (motive_1 := fun _ => Bool) (motive_2 := fun _ => Bool) false (fun _ => true) (fun _ _ => true) (fun _ => true) true (fun _ _ _ => true) (fun _ _ => true) true true (fun _ _ => true) (fun _ _ _ _ _ => true) (fun _ _ _ => true) true true (fun _ _ _ => true) (fun _ _ => false) (fun _ _ => false) true (fun _ => true) true (fun _ _ _ _ => true) v
theorem Co (v : V) : scB v = v.scal := by cases v <;> rfl
def Ws (l : List V) : Bool := List.rec true (fun v _ ih => Bool.rec false ih (scB v)) l
theorem Mo (l : List V) : Ws l = ZI l := by
 induction l with
 | nil => rfl
 | cons v t ih =>
  show (Bool.rec false (Ws t) (scB v) : Bool) = (v.scal && ZI t)
  rw [ih,Co]; cases v.scal <;> rfl
def clB (v : V) : Bool := V.rec (motive_1 := fun _ => Bool) (motive_2 := fun _ => Bool) false (fun _ => true) (fun _ _ => true) (fun _ => true) true (fun _ _ _ => false) (fun _ ih => ih) true true (fun _ ih => ih) (fun _ _ _ _ _ => false) (fun _ _ ih => ih) true true (fun _ _ ih => ih) (fun _ ih => ih) (fun _ ih => ih) true (fun _ => false) true (fun _ _ a b => Bool.rec false b a) v
def Wv (v : List V) : Bool := V.rec_1 (motive_1 := fun _ => Bool) (motive_2 := fun _ => Bool) false (fun _ => true) (fun _ _ => true) (fun _ => true) true (fun _ _ _ => false) (fun _ ih => ih) true true (fun _ ih => ih) (fun _ _ _ _ _ => false) (fun _ _ ih => ih) true true (fun _ _ ih => ih) (fun _ ih => ih) (fun _ ih => ih) true (fun _ => false) true (fun _ _ a b => Bool.rec false b a) v
mutual
theorem NL : ∀ v : V,clB v = v.clean
 | .junk | .bool _ | .int _ _ | .str _ | .nilptr | .ptr _ _ _ | .nils | .emp | .rs _ _ _ _ _ | .nilfn | .niface | .nilmap | .mapr _ => rfl
 | .fptr cs | .vs cs | .agg cs | .tup cs | .fn f cs => UJ cs
 | .iface t v => NL v
theorem UJ : ∀ l : List V,Wv l = Zd l
 | [] => rfl
 | v :: l => by
  show (Bool.rec false (Wv l) (clB v) : Bool) = (v.clean && Zd l)
  rw [NL v,UJ l]; cases v.clean <;> rfl
end
def ZH (a b : Bool) : Bool := Bool.rec false b a
theorem Bu (a b : Nat) : Nat.beq a b = (a == b) := by rw [Bool.eq_iff_iff,Nat.beq_eq,beq_iff_eq]
def eqI (a : IntKind) (m : Int) (b : IntKind) (n : Int) : Bool := match m,n with
 | .ofNat x,.ofNat y => ZH (ZH (isI a) (isI b)) (Nat.beq x y)
 | _,_ => a == b && m == n
def ZD (v : V) : V → Bool := V.rec (motive_1 := fun _ => V → Bool) (motive_2 := fun _ => List V → Bool) (fun v => match v with | .junk => true | _ => false) (fun a v => match v with | .bool b => bq a b | _ => false) (fun a m v => match v with | .int b n => eqI a m b n | _ => false) (fun a v => match v with | .str b => eqB a b | _ => false) (fun v => match v with | .nilptr => true | _ => false) (fun a b c v => match v with | .ptr x y z => ZH (Nat.beq a x) (ZH (Nat.beq b y) (Nat.beq c z)) | _ => false) (fun _ ih v => match v with | .fptr l => ih l | _ => false) (fun v => match v with | .nils => true | _ => false) (fun v => match v with | .emp => true | _ => false) (fun _ ih v => match v with | .vs l => ih l | _ => false) (fun a b c d e v => match v with | .rs x y z u w => ZH (Nat.beq a x) (ZH (Nat.beq b y) (ZH (Nat.beq c z) (ZH (Nat.beq d u) (Nat.beq e w)))) | _ => false) (fun f _ ih v => match v with | .fn g l => ZH (Nat.beq f g) (ih l) | _ => false) (fun v => match v with | .nilfn => true | _ => false) (fun v => match v with | .niface => true | _ => false) (fun t _ ih v => match v with | .iface u x => ZH (Nat.beq t u) (ih x) | _ => false) (fun _ ih v => match v with | .agg l => ih l | _ => false) (fun _ ih v => match v with | .tup l => ih l | _ => false) (fun v => match v with | .nilmap => true | _ => false) (fun a v => match v with | .mapr b => Nat.beq a b | _ => false) (fun l => List.rec true (fun _ _ _ => false) l) (fun _ _ a b l => List.rec false (fun x t _ => ZH (a x) (b t)) l) v
def QlZ (v : List V) : List V → Bool := V.rec_1 (motive_1 := fun _ => V → Bool) (motive_2 := fun _ => List V → Bool) (fun v => match v with | .junk => true | _ => false) (fun a v => match v with | .bool b => bq a b | _ => false) (fun a m v => match v with | .int b n => eqI a m b n | _ => false) (fun a v => match v with | .str b => eqB a b | _ => false) (fun v => match v with | .nilptr => true | _ => false) (fun a b c v => match v with | .ptr x y z => ZH (Nat.beq a x) (ZH (Nat.beq b y) (Nat.beq c z)) | _ => false) (fun _ ih v => match v with | .fptr l => ih l | _ => false) (fun v => match v with | .nils => true | _ => false) (fun v => match v with | .emp => true | _ => false) (fun _ ih v => match v with | .vs l => ih l | _ => false) (fun a b c d e v => match v with | .rs x y z u w => ZH (Nat.beq a x) (ZH (Nat.beq b y) (ZH (Nat.beq c z) (ZH (Nat.beq d u) (Nat.beq e w)))) | _ => false) (fun f _ ih v => match v with | .fn g l => ZH (Nat.beq f g) (ih l) | _ => false) (fun v => match v with | .nilfn => true | _ => false) (fun v => match v with | .niface => true | _ => false) (fun t _ ih v => match v with | .iface u x => ZH (Nat.beq t u) (ih x) | _ => false) (fun _ ih v => match v with | .agg l => ih l | _ => false) (fun _ ih v => match v with | .tup l => ih l | _ => false) (fun v => match v with | .nilmap => true | _ => false) (fun a v => match v with | .mapr b => Nat.beq a b | _ => false) (fun l => List.rec true (fun _ _ _ => false) l) (fun _ _ a b l => List.rec false (fun x t _ => ZH (a x) (b t)) l) v
theorem Yh {a b : Bool} : ZH a b = true ↔ a = true ∧ b = true := by cases a <;> cases b <;> simp [ZH]
theorem QqS {a : IntKind} {m : Int} {b : IntKind} {n : Int} (h : eqI a m b n = true) : (a == b && m == n) = true := by
 unfold eqI at h
 split at h
 ·rw [Yh,Yh] at h
  rw [VP h.1.1,VP h.1.2,Nat.eq_of_beq_eq_true h.2]; simp
 ·exact h
theorem QiM (a : Nat) (w : V) (h : (match w with | .mapr b => Nat.beq a b | _ => false) = true) : V.beq (.mapr a) w = true := by
 split at h
 ·rw [Bu] at h; exact h
 ·cases h
mutual
theorem PH : ∀ v w : V,ZD v w = true → V.beq v w = true
 | .junk,w,h | .nilptr,w,h | .nils,w,h | .emp,w,h | .nilfn,w,h | .niface,w,h | .nilmap,w,h => by cases w <;> first | rfl | cases h
 | .bool a,w,h => by
  cases w <;> first | cases h | skip
  have : bq a _ = true := h
  rw [M2] at this; exact this
 | .int a m,w,h => by cases w <;> first | exact QqS h | cases h
 | .str a,w,h => by
  cases w <;> first | cases h | skip
  have : eqB a _ = true := h
  rw [PL] at this; exact this
 | .ptr a b c,w,h => by
  cases w <;> first | cases h | skip
  have := Yh.1 h
  have h2 := Yh.1 this.2
  rw [Bu] at this h2
  rw [Bu] at h2
  simp only [V.beq,this.1,h2.1,h2.2,Bool.and_self]
 | .rs a b c d e,w,h => by
  cases w <;> first | cases h | skip
  have h1 := Yh.1 h
  have h2 := Yh.1 h1.2
  have h3 := Yh.1 h2.2
  have h4 := Yh.1 h3.2
  rw [Bu] at h1 h2 h3 h4
  rw [Bu] at h4
  simp only [V.beq,h1.1,h2.1,h3.1,h4.1,h4.2,Bool.and_self]
 | .mapr a,w,h => QiM a w h
 | .fptr cs,w,h => by cases w <;> first | exact Nj cs _ h | cases h
 | .vs cs,w,h => by cases w <;> first | exact Nj cs _ h | cases h
 | .agg cs,w,h => by cases w <;> first | exact Nj cs _ h | cases h
 | .tup cs,w,h => by cases w <;> first | exact Nj cs _ h | cases h
 | .fn f cs,w,h => by
  cases w <;> first | cases h | skip
  have h1 := Yh.1 h
  have h2 := Nj cs _ h1.2
  have h3 := h1.1
  rw [Bu] at h3
  simp only [V.beq,h2,h3,Bool.and_self]
 | .iface t v,w,h => by
  cases w <;> first | cases h | skip
  have h1 := Yh.1 h
  have h2 := PH v _ h1.2
  have h3 := h1.1
  rw [Bu] at h3
  simp only [V.beq,h2,h3,Bool.and_self]
theorem Nj : ∀ v w : List V,QlZ v w = true → JY v w = true
 | [],w,h => by cases w <;> first | rfl | cases h
 | v :: l,w,h => by
  cases w <;> first | cases h | skip
  have h1 := Yh.1 h
  have h2 := PH v _ h1.1
  have h3 := Nj l _ h1.2
  simp only [JY,h2,h3,Bool.and_self]
end
def plB (v : V) : Bool := match v with
 | .bool _ | .int _ _ | .str _ | .vs _ | .fptr _ | .nils | .nilptr | .niface | .nilfn | .nilmap | .emp => true
 | _ => false
theorem Dd {v : V} (h : plB v = true) : v.maxRef = 0 ∧ v.cells = [v] ∧ v.scal = true := by
 cases v <;> first | (cases h; done) | exact ⟨rfl,rfl,rfl⟩
def Zz (H : Qa) (x : V) (k : V → Qa → KR) : KR := match x with
 | .agg cs => kif (Ws cs) (frc (Ye H) fun n => k (.ptr n 0 0) (.var cs :: H)) none
 | _ => kif (scB x) (frc (Ye H) fun n => k (.ptr n 0 0) (.var [x] :: H)) none
theorem ZC {H : Qa} {x : V} {k k' : V → Qa → KR} (h : ∀ v H,KLe (k v H) (k' v H)) : KLe (Zz H x k) (beff (NS H x) k') := by
 refine KLe.trans ?_ (KP (x := BG H x) (by rw [MZ]) h)
 have key : ∀ cs,x.cells = cs → KLe (kif (Ws cs) (frc (Ye H) fun n => k (.ptr n 0 0) (.var cs :: H)) none) (ke (BG H x) k) := by
  rintro cs rfl z hz
  obtain ⟨h1,h2⟩ := UH hz
  rw [Mo] at h1
  simp only [Z7,Z2] at h2
  simp only [BG,newVar,if_pos h1]
  exact h2
 unfold Zz
 split
 ·exact key _ rfl
 ·rename_i hne
  have e : x.cells = [x] := by cases x <;> first | rfl | exact (hne _ rfl).elim
  refine KLe.trans (KLe.of ?_) (key [x] e)
  have : Ws [x] = scB x := by show (Bool.rec false true (scB x) : Bool) = _; cases scB x <;> rfl
  rw [this]
def QdH (H : Qa) (i ver off : Nat) (x : V) (k : V → Qa → KR) : KR := hgK H i fun b => match b with
 | .var cs => kif (Nat.beq ver 0) (NA off cs x fun cs => hsK H i (.var cs) fun H => k (.tup []) H) none
 | .row v sz ag cs => kif (Nat.beq ver v) (NA off cs x fun cs => hsK H i (.row v sz ag cs) fun H => k (.tup []) H) none
 | _ => none
def QY (base n : Nat) (H : Qa) (p x : V) (k : V → Qa → KR) : KR := kif (ZH (Nat.beq n 1) (plB x)) (match p with
 | .ptr i ver off => QdH H i ver off x k
 | _ => none) (ke (Vb base n H p x) k)
theorem EY {cs : List V} {off : Nat} {x : V} (h : off < cs.length) : splice cs off [x] = cs.set off x := by
 unfold splice
 rw [List.set_eq_take_append_cons_drop,if_pos h]
 simp
theorem QZ {base n : Nat} {H : Qa} {p x : V} {k k' : V → Qa → KR} (h : ∀ v H,KLe (k v H) (k' v H)) : KLe (QY base n H p x k) (beff (F6 base n H p x) k') := by
 refine KLe.trans ?_ (KP (x := Vb base n H p x) (by rw [Mf]) h)
 unfold QY
 rw [YY]
 split
 ·rename_i hc
  obtain ⟨h1,h2⟩ := Yh.1 hc
  have hn : n = 1 := Nat.eq_of_beq_eq_true h1
  subst hn
  obtain ⟨m1,m2,m3⟩ := Dd h2
  split
  ·rename_i i ver off
   unfold QdH
   rw [Rb]
   refine BP fun b hb => ?_
   have hf : fits base i x.maxRef = true := by rw [m1]; simp [fits]
   have hs : x.cells.length = 1 ∧ ZI x.cells = true := by rw [m2]; simp [ZI,m3]
   split
   ·rename_i cs
    rw [YY]
    split
    ·rename_i hv
     have : ver = 0 := Nat.eq_of_beq_eq_true hv
     subst this
     rw [LK]
     split
     ·rename_i hl
      rw [Gt hb]
      have e : Vb base 1 H (.ptr i 0 off) x = some (.tup [],ZV H i (.var (cs.set off x))) := by
       unfold Vb Rx
       rw [if_pos hs]
       simp only [hf,if_true,hb]
       rw [if_pos ⟨trivial,by omega⟩,m2,EY hl]
       rfl
      rw [e]; exact KLe.refl _
     ·exact KLe.none _
    ·exact KLe.none _
   ·rename_i v sz ag cs
    rw [YY]
    split
    ·rename_i hv
     have : ver = v := Nat.eq_of_beq_eq_true hv
     subst this
     rw [LK]
     split
     ·rename_i hl
      rw [Gt hb]
      have e : Vb base 1 H (.ptr i ver off) x = some (.tup [],ZV H i (.row ver sz ag (cs.set off x))) := by
       unfold Vb Rx
       rw [if_pos hs]
       simp only [hf,if_true,hb]
       rw [if_pos ⟨trivial,by omega⟩,m2,EY hl]
       rfl
      rw [e]; exact KLe.refl _
     ·exact KLe.none _
    ·exact KLe.none _
   ·exact KLe.none _
  ·exact KLe.none _
 ·exact KLe.refl _
end
end Go.Ev
end
section
namespace Go.Ev
noncomputable section
theorem J3 {b : Bool} {x y : KR} (h : b = true → KLe x y) : KLe (kif b x none) y := by
 cases b
 ·exact KLe.none _
 ·exact h rfl
theorem Qc9 {b : Bool} {x x' y : KR} (h : b = true → KLe x y) (h' : b = false → KLe x' y) : KLe (kif b x x') y := by
 cases b
 ·exact h' rfl
 ·exact h rfl
def UM (l : List V) (k : List V → KR) : KR := Ku l [] k
theorem QbJ (l : List V) (k : List V → KR) : UM l k = k l := by unfold UM; rw [Uu,List.append_nil]
def flatK (n : Nat) (xs : List V) (k : List V → KR) : KR :=
 List.rec (motive := fun _ => (List V → KR) → KR) (fun k => k []) (fun x _ ih k => match x with
  | .agg cs => kif (Nat.beq (Ye cs) n) (ih fun l => Ku cs l k) none
  | _ => kif (Nat.beq 1 n) (ih fun l => k (x :: l)) none) xs k
theorem cells_one {x : V} (h : ∀ cs,x = .agg cs → False) : x.cells = [x] := by cases x <;> first | rfl | exact (h _ rfl).elim
theorem Qbg (n : Nat) : ∀ (xs : List V) (k : List V → KR),KLe (flatK n xs k) (if K4 n xs = true then k (flat xs) else none)
 | [],k => KLe.refl _
 | x :: xs,k => by
  show KLe (match x with
  | .agg cs => kif (Nat.beq (Ye cs) n) (flatK n xs fun l => Ku cs l k) none
  | _ => kif (Nat.beq 1 n) (flatK n xs fun l => k (x :: l)) none) _
  have key : ∀ cs,x.cells = cs → KLe (kif (Nat.beq cs.length n) (flatK n xs fun l => k (cs ++ l)) none) (if K4 n (x :: xs) = true then k (flat (x :: xs)) else none) := by
   rintro cs rfl
   refine J3 fun h1 => (Qbg n xs _).trans (KLe.of ?_)
   have : x.cells.length = n := Nat.eq_of_beq_eq_true h1
   simp only [K4,flat,this,beq_self_eq_true,Bool.true_and]
  split
  ·rename_i cs
   rw [Z2]
   simp only [Uu]
   exact key cs rfl
  ·rename_i hne
   exact key [x] (cells_one fun cs h => hne cs h)
def AT (n : Nat) (H : Qa) (x : V) (k : Nat → List V → KR) : KR := match x with
 | .nils => k 0 []
 | .vs xs => flatK n xs fun l => k (Ye xs) l
 | .rs i ver sz off m => hgK H i fun b => match b with
  | .row v s _ cs => kif (ZH (Nat.beq ver v) (ZH (Nat.beq s n) (Nat.beq sz n))) (Jn (Nat.mul off n) cs fun l => Kl (Nat.mul m n) l fun l => k m l) none
  | _ => none
 | _ => none
theorem Qlt (n : Nat) (H : Qa) (x : V) (k : Nat → List V → KR) : KLe (AT n H x k) ((Yr x).bind fun m => (YR n H x).bind fun l => k m l) := by
 unfold AT
 split
 ·exact KLe.refl _
 ·rename_i xs
  refine (Qbg n xs _).trans ?_
  simp only [Yr,YR,Option.bind_some,Z2]
  split
  ·exact KLe.refl _
  ·exact KLe.none _
 ·rename_i i ver sz off m
  rw [Rb]
  refine BP fun b hb => ?_
  split
  ·rename_i v s _ cs
   refine J3 fun h => ?_
   obtain ⟨h1,h2⟩ := Yh.1 h
   obtain ⟨h2,h3⟩ := Yh.1 h2
   have e1 : ver = v := Nat.eq_of_beq_eq_true h1
   have e2 : s = n := Nat.eq_of_beq_eq_true h2
   have e3 : sz = n := Nat.eq_of_beq_eq_true h3
   subst e1 e2 e3
   rw [BQ]
   split
   ·rename_i h4
    rw [Bv]
    split
    ·rename_i h5
     simp only [Yr,YR,hb,Option.bind_some,Nat.mul_eq] at h4 h5 ⊢
     rw [if_pos ⟨trivial,trivial,trivial,by rw [Nat.add_mul]; simp at h5; omega⟩]
     exact KLe.refl _
    ·exact KLe.none _
   ·exact KLe.none _
  ·exact KLe.none _
 ·exact KLe.none _
def Ps (l : List V) : Bool := List.rec true (fun v _ ih => Bool.rec false ih (plB v)) l
theorem Qg6 : ∀ {l : List V},Ps l = true → Yd l = 0
 | [],_ => rfl
 | v :: l,h => by
  have h' : (Bool.rec false (Ps l) (plB v) : Bool) = true := h
  cases hv : plB v with
  | false => rw [hv] at h'; cases h'
  | true =>
   rw [hv] at h'
   show max v.maxRef (Yd l) = 0
   rw [Qg6 h',(Dd hv).1]; rfl
def Dh (base i : Nat) (l : List V) : Bool := Bool.rec (Bool.rec (fits base i (Yd l)) true (Ps l)) true (Nat.ble base i)
theorem Qrj {base i : Nat} {l : List V} (h : Dh base i l = true) : fits base i (Yd l) = true := by
 unfold Dh at h
 cases hb : Nat.ble base i with
 | true => simp [fits,Nat.le_of_ble_eq_true hb]
 | false =>
  rw [hb] at h
  cases hp : Ps l with
  | true => rw [Qg6 hp]; simp [fits]
  | false => rw [hp] at h; exact h
def Dc (n b : Nat) : Bool := ZH (Nat.ble (Nat.mul n b) 70368744177664) (Nat.ble n 70368744177664)
theorem Qdz {n b : Nat} (h : Dc n b = true) : Vd n b = true := by
 obtain ⟨h1,h2⟩ := Yh.1 h
 simp only [Vd,Bool.and_eq_true,decide_eq_true_eq]
 exact ⟨Nat.le_of_ble_eq_true h1,Nat.le_of_ble_eq_true h2⟩
def C7 (base : Nat) (H : Qa) (sz bytes : Nat) (ag : Bool) (s : V) (new : List V) (n : Nat) (k : V → Qa → KR) : KR :=
 kif (ZH (Ws new) (ZH (Nat.beq (Ye new) (Nat.mul n sz)) (Nat.ble 1 sz))) (match s with
  | .nils => kif (Nat.beq n 0) (k .nils H) (kif (Dc n bytes) (frc (Ye H) fun m => k (.rs m 0 sz 0 n) (.row 0 sz ag new :: H)) none)
  | .rs i ver sz' off len => hgK H i fun b => match b with
   | .row v s' ag' cs => kif (ZH (Nat.beq ver v) (ZH (Nat.beq s' sz) (ZH (Nat.beq sz' sz) (ZH (bq ag' ag) (ZH (Dh base i new) (ZH (Dc (Nat.add (Nat.add off len) n) bytes) (Nat.ble (Nat.mul (Nat.add off len) sz) (Ye cs))))))))
     (kif (Nat.ble (Nat.mul (Nat.add (Nat.add off len) n) sz) (Ye cs))
      (Kl (Nat.mul (Nat.add off len) sz) cs fun a => Jn (Nat.add (Nat.mul (Nat.add off len) sz) (Ye new)) cs fun c => Ku new c fun nc => Ku a nc fun cs' => hsK H i (.row v sz ag cs') fun H' => frc (Nat.add len n) fun m => k (.rs i ver sz off m) H')
      (kif (Nat.beq off 0) (Kl (Nat.mul len sz) cs fun a => Ku a new fun cs' => frc (Nat.succ v) fun w => hsK H i (.row w sz ag cs') fun H' => frc (Nat.add len n) fun m => k (.rs i w sz 0 m) H') none)) none
   | _ => none
  | _ => none) none
theorem Qmt (base : Nat) (H : Qa) (sz bytes : Nat) (ag : Bool) (s : V) (new : List V) (n : Nat) (k : V → Qa → KR) : KLe (C7 base H sz bytes ag s new n k) (ke (Ub base H sz bytes ag s new n) k) := by
 unfold C7
 refine J3 fun h => ?_
 obtain ⟨h1,h2⟩ := Yh.1 h
 obtain ⟨h2,h3⟩ := Yh.1 h2
 rw [Mo] at h1
 have e2 : new.length = n * sz := by have := Nat.eq_of_beq_eq_true h2; rwa [Z2] at this
 have e3 : 0 < sz := Nat.le_of_ble_eq_true h3
 unfold Ub
 rw [if_pos ⟨h1,e2,e3⟩]
 split
 ·refine Qc9 (fun h4 => ?_) (fun h6 => J3 fun h5 => ?_)
  ·have : n = 0 := Nat.eq_of_beq_eq_true h4
   simp only [this,if_true]; exact KLe.refl _
  ·have h5' := Qdz h5
   have hr : KLe (frc (Ye H) fun m => k (.rs m 0 sz 0 n) (.row 0 sz ag new :: H)) (ke (some (.rs H.length 0 sz 0 n,.row 0 sz ag new :: H)) k) := by simp; exact KLe.refl _
   by_cases h0 : n = 0
   ·subst h0
    cases h6
   ·simp only [if_neg h0,if_pos h5']; exact hr
 ·rename_i i ver sz' off len
  rw [Rb]
  refine BP fun b hb => ?_
  split
  ·rename_i v s' ag' cs
   refine J3 fun h => ?_
   obtain ⟨a1,h⟩ := Yh.1 h
   obtain ⟨a2,h⟩ := Yh.1 h
   obtain ⟨a3,h⟩ := Yh.1 h
   obtain ⟨a4,h⟩ := Yh.1 h
   obtain ⟨a5,h⟩ := Yh.1 h
   obtain ⟨a6,a7⟩ := Yh.1 h
   have b1 : ver = v := Nat.eq_of_beq_eq_true a1
   have b2 : s' = sz := Nat.eq_of_beq_eq_true a2
   have b3 : sz' = sz := Nat.eq_of_beq_eq_true a3
   have b4 : ag' = ag := by rw [M2] at a4; simpa using a4
   have b5 := Qrj a5
   have b6 := Qdz a6
   have b7 : (off + len) * sz ≤ cs.length := by have := Nat.le_of_ble_eq_true a7; rwa [Z2] at this
   subst b1 b2 b3 b4
   simp only [hb]
   rw [if_pos ⟨trivial,trivial,trivial,trivial,b5,b6,b7⟩]
   rw [YY]
   split
   ·rename_i h8
    have c8 := Nat.le_of_ble_eq_true h8
    rw [Z2] at c8
    rw [if_pos (by exact c8),Bv]
    split
    ·rw [BQ]
     split
     ·simp only [Uu,Z7,Gt hb,Z2]
      refine KLe.of ?_
      show k _ _ = k _ _
      simp [splice]
     ·exact KLe.none _
    ·exact KLe.none _
   ·rename_i h8
    rw [if_neg (fun hc => h8 (by rw [Z2,Nat.ble_eq]; exact hc))]
    refine J3 fun h9 => ?_
    have c9 : off = 0 := Nat.eq_of_beq_eq_true h9
    subst c9
    rw [if_pos rfl,Bv]
    split
    ·simp only [Uu,Z7,Gt hb]
     exact KLe.refl _
    ·exact KLe.none _
  ·exact KLe.none _
 ·exact KLe.none _
def Ya (base n by_ : Nat) (ag : Bool) (s x : V) (H : Qa) (k : V → Qa → KR) : KR := AT n H x fun m new => C7 base H n by_ ag s new m k
theorem Yf {base n by_ : Nat} {ag : Bool} {s x : V} {H : Qa} {k k' : V → Qa → KR} (h : ∀ v H,KLe (k v H) (k' v H)) : KLe (Ya base n by_ ag s x H k) (beff (Cl base n by_ ag s x H) k') := by
 refine KLe.trans ((Qlt n H x _).trans ?_) (KP (x := Lj base n by_ ag s x H) (by rw [Lb]) h)
 unfold Lj
 cases Yr x with
 | none => exact KLe.none _
 | some m =>
  simp only [Option.bind_some]
  cases YR n H x with
  | none => exact KLe.none _
  | some l => simp only [Option.bind_some]; exact Qmt _ _ _ _ _ _ _ _ _
def Y7 (x : V) (i : Nat) (k : V → KR) : KR := match x with
 | .tup vs => Vz i vs k
 | _ => none
theorem Jg {x : V} {i : Nat} {k k' : V → KR} (h : ∀ v,KLe (k v) (k' v)) : KLe (Y7 x i k) (bnd (Wj x i) k') := by
 refine KLe.trans ?_ (Z1 (x := NM x i) (by rw [L1]) h)
 unfold Y7
 split
 ·rename_i vs
  rw [Rc]; unfold NM
  simp only
  cases vs[i]? <;> exact KLe.refl _
 ·exact KLe.none _
def Gm (pl : List (Nat × Nat)) (ps : List (Nat × V)) (cs : List V) (k : List V → KR) : KR :=
 List.rec (motive := fun _ => List V → KR) (fun cs => k cs) (fun p _ ih cs => Prod.rec (fun i v => Vz i pl fun q => Prod.rec (fun off size => match v with
  | .agg vs => kif (ZH (Nat.beq (Ye vs) size) (Ws vs)) (Kl off cs fun a => Jn (Nat.add off size) cs fun c => Ku vs c fun vc => Ku a vc fun cs' => ih cs') none
  | _ => kif (ZH (Nat.beq 1 size) (scB v)) (NA off cs v fun cs' => ih cs') none) q) p) ps cs
theorem XC (pl : List (Nat × Nat)) (k : List V → KR) : ∀ (ps : List (Nat × V)) (cs : List V),KLe (Gm pl ps cs k) ((Js (fun i => pl[i]?) cs ps).bind k)
 | [],cs => KLe.refl _
 | (i,v) :: ps,cs => by
  show KLe (Vz i pl fun q => Prod.rec (fun off size => match v with
  | .agg vs => kif (ZH (Nat.beq (Ye vs) size) (Ws vs)) (Kl off cs fun a => Jn (Nat.add off size) cs fun c => Ku vs c fun vc => Ku a vc fun cs' => Gm pl ps cs' k) none
  | _ => kif (ZH (Nat.beq 1 size) (scB v)) (NA off cs v fun cs' => Gm pl ps cs' k) none) q) _
  rw [Rc]
  refine BP fun q hq => ?_
  obtain ⟨off,size⟩ := q
  simp only
  split
  ·rename_i vs
   refine J3 fun h => ?_
   obtain ⟨h1,h2⟩ := Yh.1 h
   have e1 : vs.length = size := by have := Nat.eq_of_beq_eq_true h1; rwa [Z2] at this
   rw [Mo] at h2
   rw [Bv]
   split
   ·rw [BQ]
    split
    ·rename_i h4
     simp only [Uu]
     refine (XC pl k ps _).trans (KLe.of ?_)
     simp only [Js,hq]
     rw [if_pos ⟨e1,h2,by simpa using h4⟩]
     simp [splice,V.cells,e1]
    ·exact KLe.none _
   ·exact KLe.none _
  ·rename_i hne
   have ec := cells_one fun cs h => hne cs h
   refine J3 fun h => ?_
   obtain ⟨h1,h2⟩ := Yh.1 h
   have e1 : 1 = size := Nat.eq_of_beq_eq_true h1
   rw [Co] at h2
   rw [LK]
   split
   ·rename_i h4
    refine (XC pl k ps _).trans (KLe.of ?_)
    simp only [Js,hq]
    rw [if_pos ⟨by rw [ec]; exact e1,by rw [ec]; simp [ZI,h2],by omega⟩,ec,EY h4]
   ·exact KLe.none _
def Zp (z : List V) (pl : List (Nat × Nat)) (ps : List (Nat × V)) (k : V → KR) : KR := Gm pl ps z fun cs => k (.agg cs)
theorem Zq {z : List V} {pl : List (Nat × Nat)} {ps : List (Nat × V)} {k k' : V → KR} (h : ∀ v,KLe (k v) (k' v)) : KLe (Zp z pl ps k) (bnd (Z4 z pl ps) k') := by
 refine KLe.trans ((XC pl _ ps z).trans ?_) (Z1 (x := MU z pl ps) (by rw [LV]) h)
 unfold MU
 cases Js (fun i => pl[i]?) z ps <;> exact KLe.refl _
def E5 (c : V) (k : V → KR) : KR := match c with
 | .nils => k (.vs [])
 | .agg _ => k c.nrm
 | .tup _ => k c.nrm
 | .iface _ _ => k c.nrm
 | _ => k c
theorem Qct (c : V) (k : V → KR) : E5 c k = k c.nrm := by cases c <;> rfl
def Dk (l : List V) (k : List V → KR) : KR := List.rec (motive := fun _ => (List V → KR) → KR) (fun k => k []) (fun c _ ih k => E5 c fun c' => ih fun l => k (c' :: l)) l k
theorem Qgi : ∀ (l : List V) (k : List V → KR),Dk l k = k (Wc l)
 | [],k => rfl
 | c :: l,k => (Qct c fun c' => Dk l fun l => k (c' :: l)).trans (Qgi l fun l => k (c.nrm :: l))
def Qag (n : Nat) (x : V) (k : V → KR) : KR := match x with
 | .agg cs => kif (ZH (Nat.beq (Ye cs) n) (Ws cs)) (Dk cs fun l => kif (Wv l) (k (.vs [.agg l])) none) none
 | _ => kif (ZH (Nat.beq 1 n) (scB x)) (E5 x fun y => kif (clB y) (k (.vs [y])) none) none
def ZJ (n len : Nat) (z : V) (ps : List (Nat × V)) (k : V → KR) : KR := match ps with
 | [(0,x)] => kif (Nat.beq len 1) (Qag n x k) (kb (VF n len z ps) k)
 | _ => kb (VF n len z ps) k
theorem ZN {n len : Nat} {z : V} {ps : List (Nat × V)} {k k' : V → KR} (h : ∀ v,KLe (k v) (k' v)) : KLe (ZJ n len z ps k) (bnd (Y1 n len z ps) k') := by
 refine KLe.trans ?_ (Z1 (x := VF n len z ps) (by rw [La]) h)
 unfold ZJ
 split
 ·rename_i x
  refine Qc9 (fun h1 => ?_) (fun _ => KLe.refl _)
  have e1 : len = 1 := Nat.eq_of_beq_eq_true h1
  subst e1
  have key : ∀ (cs : List V),x.cells = cs → cs.length = n → ZI cs = true → ∀ y,x.nrm = y → y.clean = true → VF n 1 z [(0,x)] = some (.vs [y]) := by
   rintro cs rfl h2 h3 y rfl h5
   unfold VF
   rw [if_pos (by simp [U4,h2,h3,h5])]
   rfl
  unfold Qag
  split
  ·rename_i cs
   refine J3 fun h2 => ?_
   obtain ⟨h2,h3⟩ := Yh.1 h2
   rw [Qgi]
   refine J3 fun h4 => ?_
   rw [UJ] at h4; rw [Mo] at h3
   rw [key cs rfl (by have := Nat.eq_of_beq_eq_true h2; rwa [Z2] at this) h3 (.agg (Wc cs)) rfl h4]
   exact KLe.refl _
  ·rename_i hne
   refine J3 fun h2 => ?_
   obtain ⟨h2,h3⟩ := Yh.1 h2
   rw [Qct]
   refine J3 fun h4 => ?_
   rw [NL] at h4; rw [Co] at h3
   have ec := cells_one fun cs h => hne cs h
   rw [key [x] ec (Nat.eq_of_beq_eq_true h2) (by simp [ZI,h3]) _ rfl h4]
   exact KLe.refl _
 ·exact KLe.refl _
def VV (o : Option V) (d : KR) (f : Nat → KR) : KR := match o with
 | none => d
 | some (.int _ (.ofNat n)) => f n
 | _ => none
def Nz (x : V) (lo hi mx : Option V) (k : V → KR) : KR := match x,mx with
 | .str s,none => VV hi (VV lo (k (.str s)) fun l => Jn l s fun t => k (.str t)) fun h => Kl h s fun t => VV lo (k (.str t)) fun l => Jn l t fun t => k (.str t)
 | _,_ => none
theorem G7 (n : Nat) : ZF 0 n none n = some n := rfl
theorem Uk {n m : Nat} {a : IntKind} (d : Nat) (h : m ≤ n) : ZF 0 n (some (.int a (.ofNat m))) d = some m := by
 simp only [ZF]
 rw [if_pos ⟨by simp,by simp only [Int.ofNat_eq_natCast]; omega⟩]
 rfl
theorem Ny {o : Option V} {d : KR} {f : Nat → KR} {z : Out × Qa} (h : VV o d f = some z) : (o = none ∧ d = some z) ∨ ∃ a n,o = some (.int a (.ofNat n)) ∧ f n = some z := by
 unfold VV at h
 split at h
 ·exact .inl ⟨rfl,h⟩
 ·exact .inr ⟨_,_,rfl,h⟩
 ·cases h
theorem R3 {α : Type} {n : Nat} {l : List α} {k : List α → KR} {z : Out × Qa} (h : Jn n l k = some z) : n ≤ l.length ∧ k (l.drop n) = some z := by
 rw [BQ] at h
 split at h
 ·exact ⟨by assumption,h⟩
 ·cases h
theorem Er {α : Type} {n : Nat} {l : List α} {k : List α → KR} {z : Out × Qa} (h : Kl n l k = some z) : n ≤ l.length ∧ k (l.take n) = some z := by
 rw [Bv] at h
 split at h
 ·exact ⟨by assumption,h⟩
 ·cases h
theorem Pp {x : V} {lo hi mx : Option V} {k k' : V → KR} (h : ∀ v,KLe (k v) (k' v)) : KLe (Nz x lo hi mx k) (bnd (D6 x lo hi mx) k') := by
 refine KLe.trans ?_ (Z1 (x := WY x lo hi mx) (by rw [MI]) h)
 unfold Nz
 split
 ·rename_i s
  intro z hz
  have e0 : ∀ d,ZF 0 d none 0 = some 0 := fun d => rfl
  rcases Ny hz with ⟨rfl,hy⟩ | ⟨a,n,rfl,hy⟩
  ·have hw := hy
   rcases Ny hw with ⟨rfl,hx⟩ | ⟨b,m,rfl,hx⟩
   ·simp only [WY,G7,e0,Option.bind_some]
    simpa [kb] using hx
   ·obtain ⟨h1,hx⟩ := R3 hx
    simp only [WY,G7,Uk _ h1,Option.bind_some]
    simpa [kb] using hx
  ·obtain ⟨h1,hw⟩ := Er hy
   rcases Ny hw with ⟨rfl,hx⟩ | ⟨b,m,rfl,hx⟩
   ·simp only [WY,Uk _ h1,e0,Option.bind_some]
    simpa [kb] using hx
   ·obtain ⟨h2,hx⟩ := R3 hx
    have h3 : m ≤ n := by simp at h2; omega
    simp only [WY,Uk _ h1,Uk _ h3,Option.bind_some]
    simpa [kb] using hx
 ·exact KLe.none _
def Lf (n : Nat) (x : V) (lo hi mx : Option V) (k : V → KR) : KR := match x,mx with
 | .rs i v s o m,none => kif (Nat.beq s n) (VV hi (VV lo (k (.rs i v s o m)) fun l => kif (Nat.ble l m) (frc (Nat.add o l) fun a => frc (Nat.sub m l) fun b => k (.rs i v s a b)) none) fun h => kif (Nat.ble h m) (VV lo (k (.rs i v s o h)) fun l => kif (Nat.ble l h) (frc (Nat.add o l) fun a => frc (Nat.sub h l) fun b => k (.rs i v s a b)) none) none) none
 | _,_ => kb (K2 n x lo hi mx) k
theorem AZ {n : Nat} {x : V} {lo hi mx : Option V} {k k' : V → KR} (h : ∀ v,KLe (k v) (k' v)) : KLe (Lf n x lo hi mx k) (bnd (CQ n x lo hi mx) k') := by
 refine KLe.trans ?_ (Z1 (x := K2 n x lo hi mx) (by rw [Mj]) h)
 unfold Lf
 split
 ·rename_i i v s o m
  refine J3 fun h1 => ?_
  have e1 : s = n := Nat.eq_of_beq_eq_true h1
  subst e1
  intro z hz
  have e0 : ∀ d,ZF 0 d none 0 = some 0 := fun d => rfl
  rcases Ny hz with ⟨rfl,hy⟩ | ⟨a,n,rfl,hy⟩
  ·have hw := hy
   rcases Ny hw with ⟨rfl,hx⟩ | ⟨b,l,rfl,hx⟩
   ·simp only [K2,Option.isSome_none,bne_self_eq_false,Bool.or_self,Bool.false_eq_true,if_false,Option.bind_some,G7,e0]
    simpa [kb] using hx
   ·obtain ⟨h2,hx⟩ := UH hx
    have h2 := Nat.le_of_ble_eq_true h2
    simp only [Z7] at hx
    simp only [K2,Option.isSome_none,bne_self_eq_false,Bool.or_self,Bool.false_eq_true,if_false,Option.bind_some,G7,Uk _ h2]
    simpa [kb] using hx
  ·obtain ⟨h2,hw⟩ := UH hy
   have h2 := Nat.le_of_ble_eq_true h2
   rcases Ny hw with ⟨rfl,hx⟩ | ⟨b,l,rfl,hx⟩
   ·simp only [K2,Option.isSome_none,bne_self_eq_false,Bool.or_self,Bool.false_eq_true,if_false,Option.bind_some,Uk _ h2,e0]
    simpa [kb] using hx
   ·obtain ⟨h3,hx⟩ := UH hx
    have h3 := Nat.le_of_ble_eq_true h3
    simp only [Z7] at hx
    simp only [K2,Option.isSome_none,bne_self_eq_false,Bool.or_self,Bool.false_eq_true,if_false,Option.bind_some,Uk _ h2,Uk _ h3]
    simpa [kb] using hx
 ·exact KLe.refl _
end
end Go.Ev
end
