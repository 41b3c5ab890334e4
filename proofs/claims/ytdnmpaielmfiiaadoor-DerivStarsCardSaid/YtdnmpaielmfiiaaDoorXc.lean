/- Xc: a part of the proof that each law of this seat answers true at every input. No condition. -/
import Derived.Test.YtdnmpaielmfiiaaDoorXb
set_option linter.unusedVariables false
set_option linter.unusedSimpArgs false
set_option maxRecDepth 20000
section
namespace Go.X7
open Go Go.Ev Go.Srt
theorem Qr1 {c : UInt8} : ∀ {a b r q : List UInt8},c ∉ a → c ∉ b → a ++ c :: r = b ++ c :: q → a = b ∧ r = q
 | [],[],r,q,_,_,h => by simpa using h
 | [],y :: b,r,q,_,hb,h => by
  simp only [List.nil_append,List.cons_append] at h
  injection h with h1 h2
  exact absurd (by rw [h1]; simp) hb
 | x :: a,[],r,q,ha,_,h => by
  simp only [List.nil_append,List.cons_append] at h
  injection h with h1 h2
  exact absurd (by rw [h1]; simp) ha
 | x :: a,y :: b,r,q,ha,hb,h => by
  simp only [List.cons_append] at h
  injection h with h1 h2
  simp only [List.mem_cons,not_or] at ha hb
  obtain ⟨e1,e2⟩ := Qr1 ha.2 hb.2 h2
  exact ⟨by rw [h1,e1],e2⟩
def QrG (k : Nat) : List UInt8 := if k < 10 then [UInt8.ofNat (48 + k)] else if k < 100 then [UInt8.ofNat (48 + k / 10),UInt8.ofNat (48 + k % 10)] else [UInt8.ofNat (48 + k / 100),UInt8.ofNat (48 + k / 10 % 10),UInt8.ofNat (48 + k % 10)]
theorem Qsh {k : Nat} (h : k ≤ 255) : Lib.itoa (k : Int) = QrG k := by
 unfold Lib.itoa
 rw [if_neg (by omega),show ((k : Int)).toNat = k by omega,Lib.decDigits]
 unfold QrG
 by_cases h1 : k < 10
 ·rw [dif_pos h1,if_pos h1]
 ·rw [dif_neg h1,if_neg h1,Lib.decDigits]
  by_cases h2 : k < 100
  ·rw [dif_pos (by omega),if_pos h2]; rfl
  ·rw [dif_neg (by omega),if_neg h2,Lib.decDigits,dif_pos (by omega),Nat.div_div_eq_div_mul]; rfl
theorem Qr5 : ∀ k,k < 256 → (∀ c ∈ QrG k,c ≠ 45 ∧ c ≠ 44 ∧ c ≠ 93) ∧ QrG k ≠ [] ∧ (QrG k).foldl (fun n c => n * 10 + (c.toNat - 48)) 0 = k := by decide +kernel
theorem QsN {a b : Int} (ha : 0 ≤ a ∧ a ≤ 255) (hb : 0 ≤ b ∧ b ≤ 255) (h : Lib.itoa a = Lib.itoa b) : a = b := by
 obtain ⟨k,rfl⟩ : ∃ k : Nat,a = k := ⟨a.toNat,by omega⟩
 obtain ⟨m,rfl⟩ : ∃ m : Nat,b = m := ⟨b.toNat,by omega⟩
 rw [Qsh (by omega),Qsh (by omega)] at h
 have h1 := (Qr5 k (by omega)).2.2
 have h2 := (Qr5 m (by omega)).2.2
 rw [h,h2] at h1
 rw [h1]
theorem Qr4 {a : Int} (ha : 0 ≤ a ∧ a ≤ 255) : (∀ c ∈ Lib.itoa a,c ≠ 45 ∧ c ≠ 44 ∧ c ≠ 93) ∧ Lib.itoa a ≠ [] := by
 obtain ⟨k,rfl⟩ : ∃ k : Nat,a = k := ⟨a.toNat,by omega⟩
 rw [Qsh (by omega)]
 exact ⟨(Qr5 k (by omega)).1,(Qr5 k (by omega)).2.1⟩
abbrev In8 (x : Int × Int) : Prop := (0 ≤ x.1 ∧ x.1 ≤ 255) ∧ (0 ≤ x.2 ∧ x.2 ≤ 255)
theorem Qub {x y : Int × Int} (hx : In8 x) (hy : In8 y) (h : Yp x = Yp y) : x = y := by
 unfold Yp at h
 rw [List.append_assoc,List.append_assoc] at h
 obtain ⟨e1,e2⟩ := Qr1 (c := 45) (fun hm => ((Qr4 hx.1).1 _ hm).1 rfl) (fun hm => ((Qr4 hy.1).1 _ hm).1 rfl) h
 exact Prod.ext (QsN hx.1 hy.1 e1) (QsN hx.2 hy.2 e2)
theorem Qru {x : Int × Int} (hx : In8 x) : (44 : UInt8) ∉ Yp x ∧ (93 : UInt8) ∉ Yp x ∧ Yp x ≠ [] := by
 have h1 := (Qr4 hx.1).1
 have h2 := (Qr4 hx.2).1
 unfold Yp
 refine ⟨fun h => ?_,fun h => ?_,by simp⟩
 ·simp only [List.mem_append,List.mem_singleton] at h
  rcases h with (h | h) | h
  ·exact (h1 _ h).2.1 rfl
  ·exact absurd h (by decide)
  ·exact (h2 _ h).2.1 rfl
 ·simp only [List.mem_append,List.mem_singleton] at h
  rcases h with (h | h) | h
  ·exact (h1 _ h).2.2 rfl
  ·exact absurd h (by decide)
  ·exact (h2 _ h).2.2 rfl
theorem Qs2 : ∀ {l m : List (Int × Int)} (b : Bool),(∀ x ∈ l,In8 x) → (∀ x ∈ m,In8 x) → Y4 b (l.map Yp) = Y4 b (m.map Yp) → l = m
 | [],[],_,_,_,_ => rfl
 | [],y :: m,b,_,hm,h => by
  have := (Qru (hm y List.mem_cons_self)).2.2
  simp only [List.map_nil,List.map_cons,Y4] at h
  have h := h.symm
  simp only [List.append_eq_nil_iff] at h
  exact absurd h.1.2 this
 | x :: l,[],b,hl,_,h => by
  have := (Qru (hl x List.mem_cons_self)).2.2
  simp only [List.map_nil,List.map_cons,Y4] at h
  simp only [List.append_eq_nil_iff] at h
  exact absurd h.1.2 this
 | x :: l,y :: m,b,hl,hm,h => by
  have hx := hl x List.mem_cons_self
  have hy := hm y List.mem_cons_self
  simp only [List.map_cons,Y4,List.append_assoc] at h
  have h := List.append_cancel_left h
  have key : Yp x = Yp y ∧ Y4 false (l.map Yp) = Y4 false (m.map Yp) := by
   cases l with
   | nil =>
    cases m with
    | nil => simp only [List.map_nil,Y4,List.append_nil] at h ⊢; exact ⟨h,trivial⟩
    | cons z m =>
     simp only [List.map_nil,Y4,List.append_nil,List.map_cons,Bool.false_eq_true,if_false,List.cons_append,List.nil_append] at h
     have : (44 : UInt8) ∈ Yp x := by rw [h]; simp
     exact absurd this (Qru hx).1
   | cons w l =>
    cases m with
    | nil =>
     simp only [List.map_nil,Y4,List.append_nil,List.map_cons,Bool.false_eq_true,if_false,List.cons_append,List.nil_append] at h
     have : (44 : UInt8) ∈ Yp y := by rw [← h]; simp
     exact absurd this (Qru hy).1
    | cons z m =>
     have h' := h
     simp only [List.map_cons,Y4,Bool.false_eq_true,if_false,List.cons_append,List.nil_append] at h'
     obtain ⟨e1,e2⟩ := Qr1 (c := 44) (Qru hx).1 (Qru hy).1 h'
     refine ⟨e1,?_⟩
     rw [e1] at h
     exact List.append_cancel_left h
  rw [Qub hx hy key.1,Qs2 false (fun z hz => hl z (List.mem_cons_of_mem _ hz)) (fun z hz => hm z (List.mem_cons_of_mem _ hz)) key.2]
theorem Qsi : ∀ {l : List (Int × Int)} (b : Bool),(∀ x ∈ l,In8 x) → (93 : UInt8) ∉ Y4 b (l.map Yp)
 | [],b,_ => by simp [Y4]
 | x :: l,b,hl => by
  have h1 := (Qru (hl x List.mem_cons_self)).2.1
  have h2 := Qsi false fun z hz => hl z (List.mem_cons_of_mem _ hz)
  simp only [List.map_cons,Y4,List.mem_append,not_or]
  exact ⟨⟨by cases b <;> simp,h1⟩,h2⟩
abbrev cov (l : List (Int × Int)) (i : Int) : Prop := ∃ r ∈ l,r.1 ≤ i ∧ i ≤ r.2
theorem Qtp {l : List (Int × Int)} {b : Int} (hb : 0 ≤ b ∧ b ≤ 255) (hl : ∀ r ∈ l,r.1 ≤ r.2) : (∀ r ∈ Z2 l b,r.1 ≤ r.2) ∧ ∀ i,cov (Z2 l b) i ↔ cov l i ∨ i = b := by
 have hw : Go.RowKit.wrap64 (b - 1) = b - 1 := by unfold Go.RowKit.wrap64; omega
 unfold Z2
 split
 ·rename_i y hy
  have hm : y ∈ l := List.mem_of_getLast? hy
  have hyl := hl y hm
  have hsp : l = l.dropLast ++ [y] := by
   have hne : l ≠ [] := fun e => by rw [e] at hy; cases hy
   have := List.dropLast_concat_getLast hne
   rw [List.getLast?_eq_some_getLast hne] at hy
   injection hy with hy
   rw [hy] at this
   exact this.symm
  rw [hw]
  split
  ·rename_i h2
   refine ⟨fun r hr => ?_,fun i => ?_⟩
   ·rcases List.mem_append.1 hr with hr | hr
    ·exact hl r (List.dropLast_subset _ hr)
    ·obtain rfl := List.mem_singleton.1 hr
     simp only; omega
   ·constructor
    ·rintro ⟨r,hr,h⟩
     rcases List.mem_append.1 hr with hr | hr
     ·exact .inl ⟨r,List.dropLast_subset _ hr,h⟩
     ·obtain rfl := List.mem_singleton.1 hr
      simp only at h
      by_cases hi : i = b
      ·exact .inr hi
      ·exact .inl ⟨y,hm,by omega⟩
    ·rintro (⟨r,hr,h⟩ | rfl)
     ·rw [hsp] at hr
      rcases List.mem_append.1 hr with hr | hr
      ·exact ⟨r,List.mem_append_left _ hr,h⟩
      ·obtain rfl := List.mem_singleton.1 hr
       exact ⟨(r.1,b),by simp,by simp only; omega⟩
     ·exact ⟨(y.1,i),by simp,by simp only; omega⟩
  ·refine ⟨fun r hr => ?_,fun i => ?_⟩
   ·rcases List.mem_append.1 hr with hr | hr
    ·exact hl r hr
    ·obtain rfl := List.mem_singleton.1 hr
     exact Int.le_refl _
   ·constructor
    ·rintro ⟨r,hr,h⟩
     rcases List.mem_append.1 hr with hr | hr
     ·exact .inl ⟨r,hr,h⟩
     ·obtain rfl := List.mem_singleton.1 hr
      simp only at h
      exact .inr (by omega)
    ·rintro (⟨r,hr,h⟩ | rfl)
     ·exact ⟨r,List.mem_append_left _ hr,h⟩
     ·exact ⟨(i,i),by simp,by simp only; omega⟩
 ·rename_i hn
  have hl0 : l = [] := List.getLast?_eq_none_iff.1 hn
  subst hl0
  refine ⟨fun r hr => ?_,fun i => ?_⟩
  ·obtain rfl := List.mem_singleton.1 hr
   exact Int.le_refl _
  ·constructor
   ·rintro ⟨r,hr,h⟩
    obtain rfl := List.mem_singleton.1 hr
    simp only at h
    exact .inr (by omega)
   ·rintro (⟨r,hr,_⟩ | rfl)
    ·simp at hr
    ·exact ⟨(i,i),by simp,by simp only; omega⟩
theorem QsB : ∀ (xs : List Int) (l : List (Int × Int)),(∀ b ∈ xs,0 ≤ b ∧ b ≤ 255) → (∀ r ∈ l,r.1 ≤ r.2) → ∀ i,cov (xs.foldl Z2 l) i ↔ cov l i ∨ i ∈ xs
 | [],l,_,_,i => by simp
 | b :: xs,l,hx,hl,i => by
  obtain ⟨h1,h2⟩ := Qtp (hx b List.mem_cons_self) hl
  have := QsB xs (Z2 l b) (fun c hc => hx c (List.mem_cons_of_mem _ hc)) h1 i
  rw [List.foldl_cons,this,h2 i,List.mem_cons,or_assoc]
theorem Qt0 {s t : S4} (hs : s.ok) (ht : t.ok) (h : s.rs = t.rs) : s = t := by
 have key : ∀ (s : S4) (i : Nat),i < 256 → (s.has i = true ↔ cov s.rs i) := fun s i hi => by
  have := QsB (s.bytes.map fun i : Nat => (i : Int)) [] (fun b hb => by
   obtain ⟨j,hj,rfl⟩ := List.mem_map.1 hb
   have := List.mem_range.1 (List.mem_filter.1 hj).1
   omega) (fun r hr => by simp at hr) (i : Int)
  unfold S4.rs rgs
  rw [this]
  constructor
  ·intro h
   exact .inr (List.mem_map.2 ⟨i,List.mem_filter.2 ⟨List.mem_range.2 hi,h⟩,rfl⟩)
  ·rintro (⟨r,hr,_⟩ | h)
   ·simp at hr
   ·obtain ⟨j,hj,e⟩ := List.mem_map.1 h
    obtain rfl : j = i := by omega
    exact (List.mem_filter.1 hj).2
 refine S4.ext hs ht fun i hi => ?_
 have h1 := key s i hi
 have h2 := key t i hi
 rw [h] at h1
 have := h1.trans h2.symm
 cases hsi : s.has i <;> cases hti : t.has i <;> simp_all
theorem Qtw {s t : S4} (hs : s.ok) (ht : t.ok) {r q : List UInt8} (h : U5 s ++ r = U5 t ++ q) : s = t ∧ r = q := by
 unfold U5 at h
 simp only [List.append_assoc,List.cons_append,List.nil_append] at h
 injection h with _ h
 obtain ⟨e1,e2⟩ := Qr1 (c := 93) (Qsi true s.rs_mem) (Qsi true t.rs_mem) h
 exact ⟨Qt0 hs ht (Qs2 true s.rs_mem t.rs_mem e1),e2⟩
mutual
def Wf' : X → Prop
 | .mk k s ks => (k = 2 ∨ s = S4.zero) ∧ s.ok ∧ (k = 0 ∨ k = 1 ∨ k = 2 → ks = []) ∧ (k = 5 → ks.length = 1) ∧ (k = 0 ∨ k = 1 ∨ k = 2 ∨ k = 3 ∨ k = 4 ∨ k = 5) ∧ Wfs ks
def Wfs : List X → Prop
 | [] => True
 | x :: l => Wf' x ∧ Wfs l
end
theorem QrY {l : List X} : Wfs l ↔ ∀ x ∈ l,Wf' x := by
 induction l with
 | nil => simp [Wfs]
 | cons x l ih => simp [Wfs,ih]
theorem Qsf : ∀ (n : Nat) (x : X),x.size ≤ n → Rt x → x.ok → Wf' x
 | 0,x,h,_,_ => by have := Yl x; omega
 | n + 1,.mk k s ks,h,hr,ho => by
  have hk := Uc hr
  have hsz : Qk ks ≤ n := by simp only [X.size] at h; omega
  have hkr := ((Ys _).1 hr).1
  have hko := X.ok_kids ho
  simp only [X.k] at hk
  simp only [X.ks] at hkr hko
  have hz : k = 2 ∨ s = S4.zero := by
   have h2 := ((Ys _).1 hr).2
   rw [Jo] at h2
   split at h2
   ·cases h2
   ·rename_i hs
    by_cases h : k = 2
    ·exact .inl h
    ·exact .inr (Classical.byContradiction fun e => hs ⟨h,e⟩)
  refine ⟨hz,X.ok_set ho,?_,?_,hk,QrY.2 fun y hy => Qsf n y (Nat.le_trans (Yv hy) hsz) (hkr y hy) (hko y hy)⟩
  ·rintro (rfl | rfl | rfl)
   ·have e := Fi hr (.inr rfl); injection e
   ·have e := Fi hr (.inl rfl); injection e
   ·exact (QkQ hr rfl).1
  ·rintro rfl
   obtain ⟨a,rfl,_⟩ := Nm hr
   rfl
theorem Qsx (s : S4) (ks : List X) : txt (.mk 3 s ks) = 40 :: (Yi [] true ks ++ [41]) := by
 rw [txt,if_neg (by decide),if_neg (by decide),if_neg (by decide)]; rfl
theorem Qsp (s : S4) (ks : List X) : txt (.mk 4 s ks) = 123 :: (Yi [124] true ks ++ [125]) := by
 rw [txt,if_neg (by decide),if_neg (by decide),if_neg (by decide)]; rfl
theorem Qto (s : S4) (a : X) : txt (.mk 5 s [a]) = txt a ++ [42] := by
 rw [txt,if_neg (by decide),if_neg (by decide),if_neg (by decide)]
 simp [txB,Yi]
theorem Qsl (s : S4) (ks : List X) : txt (.mk 2 s ks) = U5 s := by
 rw [txt,if_neg (by decide),if_neg (by decide),if_pos rfl]
theorem Qsb (s : S4) (ks : List X) : txt (.mk 0 s ks) = [48] := by rw [txt,if_pos rfl]
theorem Qsd (s : S4) (ks : List X) : txt (.mk 1 s ks) = [49] := by rw [txt,if_neg (by decide),if_pos rfl]
def Qsm : Nat → X → X
 | 0,y => y
 | m + 1,y => .mk 5 S4.zero [Qsm m y]
theorem QrX : ∀ (n : Nat) (x : X),x.size ≤ n → Wf' x → ∃ (y : X) (m : Nat),Wf' y ∧ y.k ≠ 5 ∧ y.size + m ≤ x.size ∧ txt x = txt y ++ List.replicate m 42 ∧ x = Qsm m y
 | 0,x,h,_ => by have := Yl x; omega
 | n + 1,.mk k s ks,h,hw => by
  by_cases h5 : k = 5
  ·subst h5
   obtain ⟨hz,_,_,h1,_,hk⟩ := hw
   obtain ⟨a,rfl⟩ := List.length_eq_one_iff.1 (h1 rfl)
   obtain rfl : s = S4.zero := by
    rcases hz with hz | hz
    ·exact absurd hz (by decide)
    ·exact hz
   have ha := (QrY.1 hk) a (by simp)
   simp only [X.size,Qk] at h
   obtain ⟨y,m,w1,w2,w3,w4,w5⟩ := QrX n a (by omega) ha
   refine ⟨y,m + 1,w1,w2,by simp only [X.size,Qk]; omega,?_,?_⟩
   ·rw [Qto,w4,List.append_assoc,List.replicate_succ']
   ·rw [Qsm,← w5]
  ·exact ⟨.mk k s ks,0,hw,h5,Nat.le_refl _,by simp,rfl⟩
def hdK (k : Int) : UInt8 := if k = 0 then 48 else if k = 1 then 49 else if k = 2 then 91 else if k = 3 then 40 else 123
theorem Qsu {x : X} (hw : Wf' x) (h5 : x.k ≠ 5) : ∃ r,txt x = hdK x.k :: r := by
 obtain ⟨k,s,ks⟩ := x
 obtain ⟨_,_,_,_,hk,_⟩ := hw
 have h5 : k ≠ 5 := h5
 rcases hk with rfl | rfl | rfl | rfl | rfl | rfl
 ·exact ⟨_,Qsb ..⟩
 ·exact ⟨_,Qsd ..⟩
 ·exact ⟨_,by rw [Qsl]; rfl⟩
 ·exact ⟨_,Qsx ..⟩
 ·exact ⟨_,Qsp ..⟩
 ·exact absurd rfl h5
theorem Qsn {x : X} (hw : Wf' x) : ∃ c r,txt x = c :: r ∧ c ≠ 42 ∧ c ≠ 41 ∧ c ≠ 124 ∧ c ≠ 125 := by
 obtain ⟨y,m,w1,w2,_,w4,_⟩ := QrX _ x (Nat.le_refl _) hw
 obtain ⟨r,hr⟩ := Qsu w1 w2
 refine ⟨hdK y.k,r ++ List.replicate m 42,by rw [w4,hr]; rfl,?_⟩
 unfold hdK
 repeat' split
 all_goals decide
theorem QsM : ∀ {n m : Nat} {r q : List UInt8},r.head? ≠ some 42 → q.head? ≠ some 42 → List.replicate n 42 ++ r = List.replicate m 42 ++ q → n = m ∧ r = q
 | 0,0,r,q,_,_,h => ⟨rfl,by simpa using h⟩
 | 0,m + 1,r,q,hr,_,h => by
  simp only [List.replicate_zero,List.nil_append,List.replicate_succ,List.cons_append] at h
  rw [h] at hr
  exact absurd rfl hr
 | n + 1,0,r,q,_,hq,h => by
  simp only [List.replicate_zero,List.nil_append,List.replicate_succ,List.cons_append] at h
  rw [← h] at hq
  exact absurd rfl hq
 | n + 1,m + 1,r,q,hr,hq,h => by
  simp only [List.replicate_succ,List.cons_append] at h
  injection h with _ h
  obtain ⟨e1,e2⟩ := QsM hr hq h
  exact ⟨by rw [e1],e2⟩
theorem Qsw {sep : List UInt8} {c : UInt8} (hs : sep = [] ∨ sep = [124]) (hc : c = 41 ∨ c = 125) : ∀ {l m : List X} {r q : List UInt8} (b : Bool),(∀ x ∈ l,Wf' x) → (∀ x ∈ m,Wf' x) →
  (∀ x ∈ l,∀ y,Wf' y → ∀ r q : List UInt8,r.head? ≠ some 42 → q.head? ≠ some 42 → txt x ++ r = txt y ++ q → x = y ∧ r = q) →
  Yi sep b l ++ c :: r = Yi sep b m ++ c :: q → l = m ∧ r = q
 | [],[],r,q,b,_,_,_,h => by
  simp only [Yi,List.nil_append] at h
  injection h with _ h
  exact ⟨rfl,h⟩
 | [],y :: m,r,q,b,_,hm,_,h => by
  obtain ⟨d,t,e,h1,h2,h3,h4⟩ := Qsn (hm y List.mem_cons_self)
  simp only [Yi,List.nil_append,List.append_assoc,e] at h
  rcases hs with rfl | rfl <;> cases b <;> simp only [if_true,if_false,Bool.false_eq_true,List.nil_append,List.cons_append] at h <;> injection h with h _ <;> subst h <;> rcases hc with hc | hc <;> first | exact absurd hc h2 | exact absurd hc h4 | exact absurd hc (by decide)
 | x :: l,[],r,q,b,hl,_,_,h => by
  obtain ⟨d,t,e,h1,h2,h3,h4⟩ := Qsn (hl x List.mem_cons_self)
  simp only [Yi,List.nil_append,List.append_assoc,e] at h
  rcases hs with rfl | rfl <;> cases b <;> simp only [if_true,if_false,Bool.false_eq_true,List.nil_append,List.cons_append] at h <;> injection h with h _ <;> subst h <;> rcases hc with hc | hc <;> first | exact absurd hc h2 | exact absurd hc h4 | exact absurd hc (by decide)
 | x :: l,y :: m,r,q,b,hl,hm,hu,h => by
  simp only [Yi,List.append_assoc] at h
  have h := List.append_cancel_left h
  have nh : ∀ (l : List X) (r : List UInt8),(∀ x ∈ l,Wf' x) → (Yi sep false l ++ c :: r).head? ≠ some 42 := fun l r hl => by
   cases l with
   | nil =>
    simp only [Yi,List.nil_append,List.head?_cons,ne_eq,Option.some.injEq]
    rcases hc with rfl | rfl <;> decide
   | cons z l =>
    obtain ⟨d,t,e,h1,_⟩ := Qsn (hl z List.mem_cons_self)
    rcases hs with rfl | rfl
    ·simp only [Yi,e,List.nil_append,List.cons_append,List.head?_cons,ne_eq,Option.some.injEq,Bool.false_eq_true,if_false]
     exact h1
    ·simp only [Yi,List.nil_append,List.cons_append,List.head?_cons,ne_eq,Option.some.injEq,Bool.false_eq_true,if_false]
     decide
  obtain ⟨e1,e2⟩ := hu x List.mem_cons_self y (hm y List.mem_cons_self) _ _ (nh l r fun z hz => hl z (List.mem_cons_of_mem _ hz)) (nh m q fun z hz => hm z (List.mem_cons_of_mem _ hz)) h
  obtain ⟨e3,e4⟩ := Qsw hs hc false (fun z hz => hl z (List.mem_cons_of_mem _ hz)) (fun z hz => hm z (List.mem_cons_of_mem _ hz)) (fun z hz => hu z (List.mem_cons_of_mem _ hz)) e2
  exact ⟨by rw [e1,e3],e4⟩
theorem QsU : ∀ (n : Nat) (x : X),x.size ≤ n → Wf' x → ∀ y,Wf' y → ∀ r q : List UInt8,r.head? ≠ some 42 → q.head? ≠ some 42 → txt x ++ r = txt y ++ q → x = y ∧ r = q
 | 0,x,h,_ => by have := Yl x; omega
 | n + 1,x,h,hx => by
  have core : ∀ x' : X,x'.size ≤ n + 1 → Wf' x' → x'.k ≠ 5 → ∀ y',Wf' y' → y'.k ≠ 5 → ∀ r q : List UInt8,txt x' ++ r = txt y' ++ q → x' = y' ∧ r = q := by
   intro x' hs hx h5 y' hy g5 r q e
   obtain ⟨a,ha⟩ := Qsu hx h5
   obtain ⟨b,hb⟩ := Qsu hy g5
   obtain ⟨k,s,ks⟩ := x'
   obtain ⟨k',s',ks'⟩ := y'
   obtain ⟨z1,o1,n1,f1,c1,w1⟩ := hx
   obtain ⟨z2,o2,n2,f2,c2,w2⟩ := hy
   have w1 := QrY.1 w1
   have w2 := QrY.1 w2
   have h5 : k ≠ 5 := h5
   have g5 : k' ≠ 5 := g5
   have hkk : k = k' := by
    rw [ha,hb] at e
    simp only [List.cons_append,X.k] at e
    injection e with e _
    revert e
    unfold hdK
    rcases c1 with rfl | rfl | rfl | rfl | rfl | rfl <;> rcases c2 with rfl | rfl | rfl | rfl | rfl | rfl <;> first | (intro _; rfl) | (intro e; exact absurd e (by decide)) | exact absurd rfl h5 | exact absurd rfl g5
   subst hkk
   have hsz : ∀ z ∈ ks,z.size ≤ n := fun z hz => by
    have := Yv hz
    simp only [X.size] at hs
    omega
   have ku : ∀ z ∈ ks,∀ y,Wf' y → ∀ r q : List UInt8,r.head? ≠ some 42 → q.head? ≠ some 42 → txt z ++ r = txt y ++ q → z = y ∧ r = q := fun z hz => QsU n z (hsz z hz) (w1 z hz)
   rcases c1 with rfl | rfl | rfl | rfl | rfl | rfl
   ·rw [Qsb,Qsb] at e
    rcases z1 with z1 | rfl
    ·exact absurd z1 (by decide)
    ·rcases z2 with z2 | rfl
     ·exact absurd z2 (by decide)
     ·rw [n1 (by simp),n2 (by simp)]
      exact ⟨rfl,by simpa using e⟩
   ·rw [Qsd,Qsd] at e
    rcases z1 with z1 | rfl
    ·exact absurd z1 (by decide)
    ·rcases z2 with z2 | rfl
     ·exact absurd z2 (by decide)
     ·rw [n1 (by simp),n2 (by simp)]
      exact ⟨rfl,by simpa using e⟩
   ·rw [Qsl,Qsl] at e
    obtain ⟨e1,e2⟩ := Qtw o1 o2 e
    rw [n1 (by simp),n2 (by simp),e1]
    exact ⟨rfl,e2⟩
   ·rw [Qsx,Qsx] at e
    simp only [List.cons_append,List.append_assoc,List.nil_append] at e
    injection e with _ e
    obtain ⟨e1,e2⟩ := Qsw (.inl rfl) (.inl rfl) true w1 w2 ku e
    rcases z1 with z1 | rfl
    ·exact absurd z1 (by decide)
    ·rcases z2 with z2 | rfl
     ·exact absurd z2 (by decide)
     ·rw [e1]; exact ⟨rfl,e2⟩
   ·rw [Qsp,Qsp] at e
    simp only [List.cons_append,List.append_assoc,List.nil_append] at e
    injection e with _ e
    obtain ⟨e1,e2⟩ := Qsw (.inr rfl) (.inr rfl) true w1 w2 ku e
    rcases z1 with z1 | rfl
    ·exact absurd z1 (by decide)
    ·rcases z2 with z2 | rfl
     ·exact absurd z2 (by decide)
     ·rw [e1]; exact ⟨rfl,e2⟩
   ·exact absurd rfl h5
  intro y hy r q hr hq e
  obtain ⟨x',m,a1,a2,a3,a4,a5⟩ := QrX _ x (Nat.le_refl _) hx
  obtain ⟨y',m',b1,b2,b3,b4,b5⟩ := QrX _ y (Nat.le_refl _) hy
  rw [a4,b4,List.append_assoc,List.append_assoc] at e
  obtain ⟨e1,e2⟩ := core x' (by omega) a1 a2 y' b1 b2 _ _ e
  obtain ⟨e3,e4⟩ := QsM hr hq e2
  rw [a5,b5,e1,e3]
  exact ⟨rfl,e4⟩
theorem Qtg {x y : X} (hx : Rt x) (hy : Rt y) (ox : x.ok) (oy : y.ok) (h : txt x = txt y) : x = y :=
 (QsU _ x (Nat.le_refl _) (Qsf _ x (Nat.le_refl _) hx ox) y (Qsf _ y (Nat.le_refl _) hy oy) [] [] (by simp) (by simp) (by simpa using h)).1
abbrev Bs := List UInt8
inductive StarL (P : Bs → Prop) : Bs → Prop
 | nil : StarL P []
 | app {u v : Bs} : u ≠ [] → P u → StarL P v → StarL P (u ++ v)
mutual
def Lg : X → Bs → Prop
 | .mk k s ks,t => if k = 1 then t = [] else if k = 2 then (∃ c,t = [c] ∧ s.has c.toNat = true) else if k = 3 then LgC ks t else if k = 4 then LgE ks t else if k = 5 then LgS ks t else False
def LgC : List X → Bs → Prop
 | [],t => t = []
 | x :: l,t => ∃ u v,t = u ++ v ∧ Lg x u ∧ LgC l v
def LgE : List X → Bs → Prop
 | [],t => False
 | x :: l,t => Lg x t ∨ LgE l t
def LgS : List X → Bs → Prop
 | [],t => False
 | x :: l,t => StarL (Lg x) t
end
theorem Qrx (s : S4) (ks : List X) (t : Bs) : Lg (.mk 1 s ks) t ↔ t = [] := by rw [Lg,if_pos rfl]
theorem Qrv (s : S4) (ks : List X) (t : Bs) : Lg (.mk 2 s ks) t ↔ ∃ c,t = [c] ∧ s.has c.toNat = true := by rw [Lg,if_neg (by decide),if_pos rfl]
theorem QrN (s : S4) (ks : List X) (t : Bs) : Lg (.mk 3 s ks) t ↔ LgC ks t := by rw [Lg,if_neg (by decide),if_neg (by decide),if_pos rfl]
theorem Qry (s : S4) (ks : List X) (t : Bs) : Lg (.mk 4 s ks) t ↔ LgE ks t := by rw [Lg,if_neg (by decide),if_neg (by decide),if_neg (by decide),if_pos rfl]
theorem Qss (s : S4) (a : X) (t : Bs) : Lg (.mk 5 s [a]) t ↔ StarL (Lg a) t := by rw [Lg,if_neg (by decide),if_neg (by decide),if_neg (by decide),if_neg (by decide),if_pos rfl,LgS]
theorem Qrp {k : Int} (h : k ≠ 1 ∧ k ≠ 2 ∧ k ≠ 3 ∧ k ≠ 4 ∧ k ≠ 5) (s : S4) (ks : List X) (t : Bs) : Lg (.mk k s ks) t ↔ False := by
 rw [Lg,if_neg h.1,if_neg h.2.1,if_neg h.2.2.1,if_neg h.2.2.2.1,if_neg h.2.2.2.2]
theorem Qrq {l : List X} {t : Bs} : LgE l t ↔ ∃ x ∈ l,Lg x t := by
 induction l with
 | nil => simp [LgE]
 | cons x l ih => simp only [LgE,ih,List.mem_cons,exists_eq_or_imp]
theorem Qr2 (x : X) (t : Bs) : LgC [x] t ↔ Lg x t := by
 simp only [LgC]
 constructor
 ·rintro ⟨u,v,rfl,h,rfl⟩; rwa [List.append_nil]
 ·intro h; exact ⟨t,[],by simp,h,rfl⟩
theorem Qs8 (l m : List X) (t : Bs) : LgC (l ++ m) t ↔ ∃ u v,t = u ++ v ∧ LgC l u ∧ LgC m v := by
 induction l generalizing t with
 | nil =>
  simp only [List.nil_append,LgC]
  constructor
  ·intro h; exact ⟨[],t,rfl,rfl,h⟩
  ·rintro ⟨u,v,rfl,rfl,h⟩; exact h
 | cons x l ih =>
  simp only [List.cons_append,LgC,ih]
  constructor
  ·rintro ⟨u,v,rfl,h,a,b,rfl,h1,h2⟩
   exact ⟨u ++ a,b,by simp,⟨u,a,rfl,h,h1⟩,h2⟩
  ·rintro ⟨p,q,rfl,⟨u,a,rfl,h,h1⟩,h2⟩
   exact ⟨u,a ++ q,by simp,h,a,q,rfl,h1,h2⟩
theorem Qs4 (l : List X) (t : Bs) : LgC (flatK 3 l) t ↔ LgC l t := by
 induction l generalizing t with
 | nil => exact Iff.rfl
 | cons x l ih =>
  have e : flatK 3 (x :: l) = (if x.k = 3 then x.ks else [x]) ++ flatK 3 l := rfl
  have e2 : ∀ u,LgC (if x.k = 3 then x.ks else [x]) u ↔ Lg x u := fun u => by
   cases x with
   | mk k s ks =>
    show LgC (if k = 3 then ks else [.mk k s ks]) u ↔ _
    split
    ·rename_i h; subst h; rw [QrN]
    ·exact Qr2 _ _
  rw [e,Qs8,LgC]
  simp only [e2,ih]
theorem Qtz {x : X} (h : x.k = 1) (t : Bs) : Lg x t ↔ t = [] := by
 cases x with
 | mk k s ks => obtain rfl : k = 1 := h; exact Qrx ..
theorem QsW {x : X} (h : x.k = 0) (t : Bs) : ¬ Lg x t := by
 cases x with
 | mk k s ks => obtain rfl : k = 0 := h; rw [Qrp (by decide)]; exact id
theorem Qt7 (l : List X) (t : Bs) : LgC (l.filter fun x => !decide (x.k = 1)) t ↔ LgC l t := by
 induction l generalizing t with
 | nil => exact Iff.rfl
 | cons x l ih =>
  rw [List.filter_cons]
  split
  ·simp only [LgC,ih]
  ·rename_i h
   have h1 : x.k = 1 := by simpa using h
   simp only [LgC,Qtz h1,ih]
   constructor
   ·intro h; exact ⟨[],t,rfl,rfl,h⟩
   ·rintro ⟨u,v,rfl,rfl,h⟩; exact h
theorem QtC {l : List X} {x : X} (hx : x ∈ l) (h0 : x.k = 0) (t : Bs) : ¬ LgC l t := by
 obtain ⟨a,b,rfl⟩ := List.append_of_mem hx
 rw [Qs8]
 rintro ⟨u,v,_,_,p,q,_,h,_⟩
 exact QsW h0 p h
theorem Qso (l : List X) (t : Bs) : Lg (Q8 l) t ↔ LgC l t := by
 rw [Fy]
 split
 ·rename_i h
  obtain ⟨x,hx,h0⟩ := List.any_eq_true.1 h
  rw [Qrp (by decide),← Qs4]
  exact ⟨False.elim,fun hl => QtC hx (of_decide_eq_true h0) t hl⟩
 ·have hb : LgC (JI l) t ↔ LgC l t := by
   rw [← Qs4 l]
   exact Qt7 _ _
  rw [← hb]
  generalize JI l = F
  match F with
  | [] => exact Qrx ..
  | [z] => exact (Qr2 z t).symm
  | z :: w :: F => exact QrN ..
theorem Qty (l : List X) (t : Bs) : LgE (flatK 4 l) t ↔ LgE l t := by
 rw [Qrq,Qrq]
 constructor
 ·rintro ⟨z,hz,h⟩
  rcases QbG hz with ⟨h1,_⟩ | ⟨y,hy,hk,hz⟩
  ·exact ⟨z,h1,h⟩
  ·refine ⟨y,hy,?_⟩
   cases y with
   | mk k s ks => obtain rfl : k = 4 := hk; rw [Qry,Qrq]; exact ⟨z,hz,h⟩
 ·rintro ⟨y,hy,h⟩
  by_cases hk : y.k = 4
  ·cases y with
   | mk k s ks =>
    obtain rfl : k = 4 := hk
    rw [Qry,Qrq] at h
    obtain ⟨z,hz,h⟩ := h
    exact ⟨z,List.mem_flatMap.2 ⟨_,hy,by rw [if_pos (by rfl)]; exact hz⟩,h⟩
  ·exact ⟨y,List.mem_flatMap.2 ⟨_,hy,by rw [if_neg hk]; simp⟩,h⟩
theorem QsD (l : List X) (i : Nat) : (Zh l).has i = l.any fun x => decide (x.k = 2) && x.s.has i := by
 have := QsL l S4.zero i
 rw [S4.zero_has,Bool.false_or] at this
 exact this
theorem Qse {l : List X} (h : ∀ x ∈ l,Rt x ∧ x.ok) (t : Bs) : Lg (Ze l) t ↔ LgE l t := by
 have hf : ∀ z ∈ flatK 4 l,Rt z ∧ z.k ≠ 4 ∧ z.ok := fun z hz => by
  obtain ⟨a,b⟩ := QdP (fun x hx => (h x hx).1) hz
  exact ⟨a,b,Pg (fun x hx => (h x hx).2) z hz⟩
 have hJ : (Zh (flatK 4 l)).sm := Lm S4.zero_sm fun x hx => (hf x hx).2.2
 have hB : ∀ z ∈ ZC l,Rt z ∧ z.ok := fun z hz => by
  rcases Kl hz with ⟨rfl,hn⟩ | ⟨hz,_⟩
  ·exact ⟨TT hn,hJ,trivial⟩
  ·exact ⟨(hf z hz).1,(hf z hz).2.2⟩
 have hb : LgE (ZC l) t ↔ LgE l t := by
  rw [← Qty l,Qrq,Qrq]
  constructor
  ·rintro ⟨z,hz,hl⟩
   rcases Kl hz with ⟨rfl,hn⟩ | ⟨hz,_⟩
   ·obtain ⟨c,rfl,hc⟩ := (Qrv _ _ _).1 hl
    rw [QsD,List.any_eq_true] at hc
    obtain ⟨x,hx,hc⟩ := hc
    simp only [Bool.and_eq_true,decide_eq_true_eq] at hc
    refine ⟨x,hx,?_⟩
    cases x with
    | mk k s ks => obtain rfl : k = 2 := hc.1; exact (Qrv _ _ _).2 ⟨c,rfl,hc.2⟩
   ·exact ⟨z,hz,hl⟩
  ·rintro ⟨z,hz,hl⟩
   by_cases h0 : z.k = 0
   ·exact absurd hl (QsW h0 t)
   by_cases h2 : z.k = 2
   ·have hc : ∃ c,t = [c] ∧ z.s.has c.toNat = true := by
     cases z with
     | mk k s ks => obtain rfl : k = 2 := h2; exact (Qrv _ _ _).1 hl
    obtain ⟨c,rfl,hc⟩ := hc
    have hj : (Zh (flatK 4 l)).has c.toNat = true := by
     rw [QsD,List.any_eq_true]
     exact ⟨z,hz,by simp [h2,hc]⟩
    have hn : Zh (flatK 4 l) ≠ S4.zero := fun e => by rw [e,S4.zero_has] at hj; cases hj
    exact ⟨_,QaC l hn,(Qrv _ _ _).2 ⟨c,rfl,hj⟩⟩
   ·have ho : z ∈ Zy (flatK 4 l) := List.mem_filter.2 ⟨hz,by simp [h0,h2]⟩
    have ht := (Qtv l (txt z)).2 (List.mem_map.2 ⟨z,List.mem_append_right _ ho,rfl⟩)
    obtain ⟨z',hz',e⟩ := List.mem_map.1 ht
    have := Qtg (hB z' hz').1 (hf z hz).1 (hB z' hz').2 (hf z hz).2.2 e
    subst this
    exact ⟨z',hz',hl⟩
 rw [M0,← hb]
 generalize ZC l = F
 match F with
 | [] => rw [show ofL ([] : List X) 4 0 = .mk 0 S4.zero [] from rfl,Qrp (by decide)]; exact Iff.rfl
 | [z] => simp only [ofL,LgE,or_false]
 | z :: w :: F => exact Qry ..
theorem Qsq : ∀ (n : Nat) (x : X),x.size ≤ n → Rt x → (Zs x = true ↔ Lg x [])
 | 0,x,h,_ => by have := Yl x; omega
 | n + 1,.mk k s ks,h,hr => by
  have hk := Uc hr
  have hsz : Qk ks ≤ n := by simp only [X.size] at h; omega
  have hkr := ((Ys _).1 hr).1
  simp only [X.k] at hk
  simp only [X.ks] at hkr
  have ih : ∀ y ∈ ks,(Zs y = true ↔ Lg y []) := fun y hy => Qsq n y (Nat.le_trans (Yv hy) hsz) (hkr y hy)
  rw [Zs]
  rcases hk with rfl | rfl | rfl | rfl | rfl | rfl
  ·rw [Qrp (by decide)]; simp
  ·rw [Qrx]; simp
  ·rw [Qrv]; simp
  ·rw [QrN,if_neg (by decide),if_pos rfl]
   have key : ∀ l : List X,(∀ y ∈ l,(Zs y = true ↔ Lg y [])) → (W9 l = true ↔ LgC l []) := by
    intro l
    induction l with
    | nil => intro _; simp [W9,LgC]
    | cons y l ihl =>
     intro hl
     rw [W9,Bool.and_eq_true,hl y List.mem_cons_self,ihl fun z hz => hl z (List.mem_cons_of_mem _ hz),LgC]
     constructor
     ·rintro ⟨a,b⟩; exact ⟨[],[],rfl,a,b⟩
     ·rintro ⟨u,v,e,a,b⟩
      obtain ⟨rfl,rfl⟩ := List.append_eq_nil_iff.1 e.symm
      exact ⟨a,b⟩
   exact key ks ih
  ·rw [Qry,if_neg (by decide),if_neg (by decide),if_pos rfl,QdE,List.any_eq_true,Qrq]
   constructor
   ·rintro ⟨y,hy,h⟩; exact ⟨y,hy,(ih y hy).1 h⟩
   ·rintro ⟨y,hy,h⟩; exact ⟨y,hy,(ih y hy).2 h⟩
  ·obtain ⟨a,rfl,_⟩ := Nm hr
   rw [Qss]
   simp only [or_true,if_true,true_iff]
   exact .nil
theorem Qth (s : S4) (c : UInt8) : s.hasB (c.toNat : Int) = s.has c.toNat := by
 have := c.toNat_lt
 unfold S4.hasB
 rw [decide_eq_true (by omega),decide_eq_true (by omega)]
 simp
theorem Qs3 (c : UInt8) : ∀ (n : Nat) (x : X),x.size ≤ n → Rt x → x.ok → ∀ t,(Lg (Qo (c.toNat : Int) x) t ↔ Lg x (c :: t))
 | 0,x,h,_,_ => by have := Yl x; omega
 | n + 1,.mk k s ks,h,hr,ho => by
  intro t
  have hk := Uc hr
  have hsz : Qk ks ≤ n := by simp only [X.size] at h; omega
  have hkr := ((Ys _).1 hr).1
  have hko := X.ok_kids ho
  simp only [X.k] at hk
  simp only [X.ks] at hkr hko
  have ih : ∀ y ∈ ks,∀ t,(Lg (Qo (c.toNat : Int) y) t ↔ Lg y (c :: t)) := fun y hy => Qs3 c n y (Nat.le_trans (Yv hy) hsz) (hkr y hy) (hko y hy)
  rcases hk with rfl | rfl | rfl | rfl | rfl | rfl
  ·rw [show Qo (c.toNat : Int) (.mk 0 s ks) = x0 from rfl,Qrp (by decide),Qrp (by decide)]
  ·rw [show Qo (c.toNat : Int) (.mk 1 s ks) = x0 from rfl,Qrp (by decide),Qrx]; simp
  ·rw [EY,Qth,Qrv]
   split
   ·rename_i hs
    rw [Qrx]
    constructor
    ·rintro rfl; exact ⟨c,rfl,hs⟩
    ·rintro ⟨d,e,_⟩; injection e
   ·rename_i hs
    rw [Qrp (by decide)]
    constructor
    ·exact False.elim
    ·rintro ⟨d,e,hd⟩
     injection e with e1 e2
     rw [e1] at hs
     exact hs hd
  ·rw [Qrh,QrN,Qse fun x hx => ⟨CX _ hkr x hx,Qb2 _ hko x hx⟩]
   have key : ∀ l : List X,(∀ y ∈ l,Rt y ∧ ∀ t,(Lg (Qo (c.toNat : Int) y) t ↔ Lg y (c :: t))) → (LgE (Zu (c.toNat : Int) l) t ↔ LgC l (c :: t)) := by
    intro l
    induction l with
    | nil => intro _; simp [Zu,LgE,LgC]
    | cons y l ihl =>
     intro hl
     have hy := hl y List.mem_cons_self
     have ihl := ihl fun z hz => hl z (List.mem_cons_of_mem _ hz)
     have hn := Qsq _ y (Nat.le_refl _) hy.1
     have e1 : LgE (Zu (c.toNat : Int) (y :: l)) t ↔ (∃ u v,t = u ++ v ∧ Lg y (c :: u) ∧ LgC l v) ∨ (Lg y [] ∧ LgC l (c :: t)) := by
      rw [Zu,LgE,Qso,LgC]
      simp only [hy.2]
      refine or_congr Iff.rfl ?_
      rw [← ihl,← hn]
      split
      ·rename_i h; simp [h]
      ·rename_i h; simp [h,LgE]
     rw [e1,LgC]
     constructor
     ·rintro (⟨u,v,rfl,h1,h2⟩ | ⟨h1,h2⟩)
      ·exact ⟨c :: u,v,rfl,h1,h2⟩
      ·exact ⟨[],c :: t,rfl,h1,h2⟩
     ·rintro ⟨u,v,e,h1,h2⟩
      cases u with
      | nil => rw [List.nil_append] at e; rw [e]; exact .inr ⟨h1,h2⟩
      | cons d u =>
       rw [List.cons_append] at e
       injection e with e1 e2
       subst e1
       exact .inl ⟨u,v,e2,h1,h2⟩
   exact key ks fun y hy => ⟨hkr y hy,ih y hy⟩
  ·rw [CY,Qry,Qse fun x hx => ⟨Ew _ hkr x hx,Fq _ hko x hx⟩,Ai,Qrq,Qrq]
   constructor
   ·rintro ⟨y,hy,h⟩
    obtain ⟨z,hz,rfl⟩ := List.mem_map.1 hy
    exact ⟨z,hz,(ih z hz t).1 h⟩
   ·rintro ⟨z,hz,h⟩
    exact ⟨_,List.mem_map.2 ⟨z,hz,rfl⟩,(ih z hz t).2 h⟩
  ·obtain ⟨a,rfl,_⟩ := Nm hr
   rw [Cs,Qso,LgC]
   simp only [Qr2,Qss,ih a (by simp)]
   constructor
   ·rintro ⟨u,v,rfl,h1,h2⟩
    exact .app (u := c :: u) (by simp) h1 h2
   ·intro h
    generalize hw : c :: t = w at h
    cases h with
    | nil => cases hw
    | app hn h1 h2 =>
     rename_i u v
     cases u with
     | nil => exact absurd rfl hn
     | cons d u =>
      rw [List.cons_append] at hw
      injection hw with e1 e2
      subst e1
      exact ⟨u,v,e2,h1,h2⟩
def leftX (x : X) (t : Bs) : X := t.foldl (fun x c => Qo (c.toNat : Int) x) x
theorem Qsv : ∀ (t : Bs) (x : X),Rt x → x.ok → (Zs (leftX x t) = true ↔ Lg x t)
 | [],x,hr,ho => Qsq _ x (Nat.le_refl _) hr
 | c :: t,x,hr,ho => (Qsv t _ (Ve _ hr) (Kc _ ho)).trans (Qs3 c _ x (Nat.le_refl _) hr ho t)
def Qrl (P : Bs → Prop) (s : Bs) (a : Nat → Prop) (j : Nat) : Prop := ∃ i,i ≤ j ∧ a i ∧ P ((s.drop i).take (j - i))
theorem Qrl.congr {P Q : Bs → Prop} {s : Bs} {a : Nat → Prop} {j : Nat} (h : ∀ t,P t ↔ Q t) : Qrl P s a j ↔ Qrl Q s a j := by
 unfold Qrl; simp only [h]
def SLe (P : Bs → Prop) : Nat → Bs → Prop
 | 0,t => t = []
 | m + 1,t => SLe P m t ∨ ∃ u v,t = u ++ v ∧ SLe P m u ∧ P v
theorem SLe.nil (P : Bs → Prop) : ∀ m,SLe P m []
 | 0 => rfl
 | m + 1 => .inl (SLe.nil P m)
theorem SLe.mono {P : Bs → Prop} {m : Nat} {t : Bs} (h : SLe P m t) : ∀ k,SLe P (m + k) t
 | 0 => h
 | k + 1 => .inl (SLe.mono h k)
end Go.X7
end
