/- Xb: a part of the proof that each law of this seat answers true at every input. No condition. -/
import Derived.Test.YtdnmpaielmfiiaaDoorXa
set_option linter.unusedVariables false
set_option linter.unusedSimpArgs false
set_option maxRecDepth 20000
section
namespace Go.X7
open Go Go.Ev Go.Srt
mutual
theorem J3 : ∀ {x y : X},sameX x y = true → x = y
 | .mk k s ks,.mk k' s' ks',h => by
  simp only [sameX,Bool.and_eq_true,decide_eq_true_eq] at h
  obtain ⟨⟨rfl,rfl⟩,h3⟩ := h
  rw [Qf6 h3]
theorem Qf6 : ∀ {l m : List X},Jl l m = true → l = m
 | [],[],_ => rfl
 | [],_ :: _,h => by simp [Jl] at h
 | _ :: _,[],h => by simp [Jl] at h
 | x :: l,y :: m,h => by
  simp only [Jl,Bool.and_eq_true] at h
  rw [J3 h.1,Qf6 h.2]
end
abbrev Rt (x : X) : Prop := WJ x = true
theorem Qqt {l : List X} : WK l = true ↔ ∀ x ∈ l,Rt x := by rw [Qmm,List.all_eq_true]
theorem Yv (x : X) : Rt x ↔ (∀ y ∈ x.ks,Rt y) ∧ Bz x = true := by
 cases x with
 | mk k s ks =>
  show (WK ks && Bz (.mk k s ks)) = true ↔ _
  rw [Bool.and_eq_true,Qqt]
  exact Iff.rfl
theorem Ca {k : Int} {l : List X} (h : ∀ x ∈ l,x.k ≠ k) : flatK k l = l := by
 induction l with
 | nil => rfl
 | cons x l ih =>
  have e := ih fun y hy => h y (List.mem_cons_of_mem _ hy)
  unfold flatK at e ⊢
  rw [List.flatMap_cons,if_neg (h x List.mem_cons_self),e]
  rfl
theorem Qil (k : Int) (l m : List X) : flatK k (l ++ m) = flatK k l ++ flatK k m := by
 unfold flatK
 rw [List.flatMap_append]
theorem Qd3 {k : Int} {l : List X} {x : X} (hx : x ∈ l) (hk : x.k = k) : Qj (flatK k l) < Qj l := by
 obtain ⟨a,b,rfl⟩ := List.append_of_mem hx
 have e1 : flatK k (a ++ x :: b) = flatK k a ++ (x.ks ++ flatK k b) := by
  rw [Qil]
  congr 1
  unfold flatK
  rw [List.flatMap_cons,if_pos hk]
 have h1 := Uw (k := k) a
 have h2 := Uw (k := k) b
 have h3 := size_eq x
 rw [e1]
 simp only [Lr,Qj]
 omega
theorem QaB {k : Int} {l : List X} {z : X} (h : z ∈ flatK k l) : (z ∈ l ∧ z.k ≠ k) ∨ ∃ y ∈ l,y.k = k ∧ z ∈ y.ks := by
 obtain ⟨y,hy,hz⟩ := List.mem_flatMap.1 h
 split at hz
 ·rename_i e
  exact .inr ⟨y,hy,e,hz⟩
 ·rename_i e
  obtain rfl := List.mem_singleton.1 hz
  exact .inl ⟨hy,e⟩
theorem CR {x : X} {ks : List X} {k : Int} {s : S4} (h : x ∈ flatK k ks) : x ≠ .mk k s ks := fun e => by
 have h1 := Yl h
 have h2 := Uw (k := k) ks
 rw [e] at h1
 simp only [X.size] at h1
 omega
def JA (l : List X) : List X := (flatK 3 l).filter fun x => !decide (x.k = 1)
theorem PL (l : List X) : Q8 l = if (flatK 3 l).any (fun x => decide (x.k = 0)) then .mk 0 S4.zero [] else ofL (JA l) 3 1 := rfl
theorem QlO {l : List X} (h : 1 < l.length) (k n : Int) : ofL l k n = .mk k S4.zero l := by
 match l,h with
 | x :: y :: l,_ => rfl
theorem Bv {x : X} (h : Rt x) (h3 : x.k = 3) : ∀ y ∈ x.ks,Rt y ∧ y.k ≠ 3 ∧ y.k ≠ 0 ∧ y.k ≠ 1 := by
 obtain ⟨k,s,ks⟩ := x
 obtain rfl : k = 3 := h3
 obtain ⟨h1,h2⟩ := (Yv _).1 h
 rw [Ji] at h2
 split at h2
 ·cases h2
 ·rename_i hs
  have hs : s = S4.zero := Classical.byContradiction fun e => hs ⟨by decide,e⟩
  subst hs
  rw [if_neg (by decide),if_neg (by decide),if_neg (by decide),if_pos rfl,Bool.and_eq_true,decide_eq_true_eq] at h2
  obtain ⟨hl,hc⟩ := h2
  have hc := J3 hc
  rw [PL] at hc
  split at hc
  ·injection hc with e; exact absurd e (by decide)
  ·rename_i hany
   have hF : JA ks = ks := by
    have key : ∀ F : List X,F = JA ks → ofL F 3 1 = .mk 3 S4.zero ks → F = ks := fun F hF e => by
     match F,hF,e with
     | [],_,e => injection e with e
     | [z],hF,e =>
      have hz : z ∈ JA ks := by rw [← hF]; simp
      exact absurd e (CR (List.mem_filter.1 hz).1)
     | z :: w :: F,_,e => injection e
    exact key _ rfl hc
   have hno : ∀ y ∈ ks,y.k ≠ 3 := fun y hy hk => by
    have a1 := Qd3 hy hk
    have a2 := BN (fun x => !decide (x.k = 1)) (flatK 3 ks)
    have a3 : Qj ((flatK 3 ks).filter fun x => !decide (x.k = 1)) = Qj ks := by rw [show ((flatK 3 ks).filter fun x => !decide (x.k = 1)) = ks from hF]
    omega
   intro y hy
   refine ⟨h1 y hy,hno y hy,fun h0 => hany ?_,fun h0 => ?_⟩
   ·rw [Ca hno]
    exact List.any_eq_true.2 ⟨y,hy,by simp [h0]⟩
   ·have hy' : y ∈ JA ks := by rw [hF]; exact hy
    have := (List.mem_filter.1 hy').2
    simp [h0] at this
theorem Qk2 {l : List X} (h : ∀ x ∈ l,Rt x) {z : X} (hz : z ∈ flatK 3 l) : Rt z ∧ z.k ≠ 3 := by
 rcases QaB hz with ⟨h1,h2⟩ | ⟨y,hy,hk,hz⟩
 ·exact ⟨h z h1,h2⟩
 ·have := Bv (h y hy) hk z hz
  exact ⟨this.1,this.2.1⟩
theorem Ui : Rt (.mk 0 S4.zero []) := by
 rw [Yv]
 exact ⟨fun y hy => by simp [X.ks] at hy,by rw [Ji,if_neg (by simp),if_pos (by simp)]; rfl⟩
theorem Gp : Rt (.mk 1 S4.zero []) := by
 rw [Yv]
 exact ⟨fun y hy => by simp [X.ks] at hy,by rw [Ji,if_neg (by simp),if_pos (by simp)]; rfl⟩
theorem QhO {s : S4} (hs : s ≠ S4.zero) : Rt (.mk 2 s []) := by
 rw [Yv]
 refine ⟨fun y hy => by simp [X.ks] at hy,?_⟩
 rw [Ji,if_neg (by simp),if_neg (by decide),if_pos rfl]
 simp [hs]
theorem Cd {l : List X} (h : ∀ x ∈ l,Rt x) : Rt (Q8 l) := by
 rw [PL]
 split
 ·exact Ui
 ·rename_i hany
  have hm : ∀ z ∈ JA l,Rt z ∧ z.k ≠ 3 ∧ z.k ≠ 0 ∧ z.k ≠ 1 := fun z hz => by
   obtain ⟨a,b⟩ := List.mem_filter.1 hz
   obtain ⟨c,d⟩ := Qk2 h a
   refine ⟨c,d,fun e => hany (List.any_eq_true.2 ⟨z,a,by simp [e]⟩),by simpa using b⟩
  generalize JA l = F at hm
  match F,hm with
  | [],_ => exact Gp
  | [z],hm => exact (hm z (by simp)).1
  | z :: w :: F,hm =>
   show Rt (.mk 3 S4.zero (z :: w :: F))
   rw [Yv]
   refine ⟨fun y hy => (hm y hy).1,?_⟩
   rw [Ji,if_neg (by simp),if_neg (by decide),if_neg (by decide),if_neg (by decide),if_pos rfl]
   have e : Q8 (z :: w :: F) = .mk 3 S4.zero (z :: w :: F) := by
    rw [PL,JA,Ca fun y hy => (hm y hy).2.1,if_neg,List.filter_eq_self.2 fun y hy => by simp [(hm y hy).2.2.2]]
    ·rfl
    ·intro hc
     obtain ⟨y,hy,h0⟩ := List.any_eq_true.1 hc
     exact (hm y hy).2.2.1 (of_decide_eq_true h0)
   rw [e,UL]
   simp
def ZC (l : List X) : List X := (ZB (flatK 4 l)).foldl (fun a r => Q4 r a) (Zq (Zh (flatK 4 l)))
theorem MI (l : List X) : Zd l = ofL (ZC l) 4 0 := rfl
theorem FJ (l : List X) : SS (ZC l) := (F5 _ (Xk _)).1
theorem QcS (l : List X) (t : K) : Ft t (ZC l) = (Ft t (Zq (Zh (flatK 4 l)) ++ ZB (flatK 4 l))).take 1 := (F5 _ (Xk _)).2 t
theorem QbQ {s : S4} {z : X} (h : z ∈ Zq s) : z = .mk 2 s [] ∧ s ≠ S4.zero := by
 unfold Zq at h
 split at h
 ·simp at h
 ·rename_i e
  exact ⟨List.mem_singleton.1 h,e⟩
theorem QcX {m : List X} {z : X} (h : z ∈ ZB m) : z ∈ m ∧ z.k ≠ 0 ∧ z.k ≠ 2 := by
 obtain ⟨a,b⟩ := List.mem_filter.1 h
 simp only [Bool.and_eq_true,Bool.not_eq_true',decide_eq_false_iff_not] at b
 exact ⟨a,b.1,b.2⟩
theorem Ky {l : List X} {z : X} (h : z ∈ ZC l) : (z = .mk 2 (Zh (flatK 4 l)) [] ∧ Zh (flatK 4 l) ≠ S4.zero) ∨ (z ∈ flatK 4 l ∧ z.k ≠ 0 ∧ z.k ≠ 2) := by
 rcases Xt _ _ z h with h | h
 ·exact .inl (QbQ h)
 ·exact .inr (QcX h)
theorem QqC {p : X → Bool} {l : List X} {x : X} (hx : x ∈ l) (hp : p x = false) : Qj (l.filter p) < Qj l := by
 obtain ⟨a,b,rfl⟩ := List.append_of_mem hx
 rw [List.filter_append,List.filter_cons,if_neg (by simp [hp])]
 have h1 := BN p a
 have h2 := BN p b
 have h3 := Yg x
 simp only [Lr,Qj]
 omega
theorem Qo2 (l : List X) : Qj (ZC l) ≤ Qj (flatK 4 l) := by
 have h2 := CX (ZB (flatK 4 l)) (Zq (Zh (flatK 4 l)))
 have h3 := BN (fun x => !decide (x.k = 0) && !decide (x.k = 2)) (flatK 4 l)
 have h4 : Qj (Zq (Zh (flatK 4 l))) + Qj (ZB (flatK 4 l)) ≤ Qj (flatK 4 l) := by
  by_cases hz : Zh (flatK 4 l) = S4.zero
  ·rw [Zq,if_pos hz]
   simp only [Qj]
   unfold ZB
   omega
  ·rw [Zq,if_neg hz]
   have : ∃ x ∈ flatK 4 l,x.k = 2 := Classical.byContradiction fun hc => hz (BM _ fun x hx h2 => hc ⟨x,hx,h2⟩)
   obtain ⟨x,hx,hk⟩ := this
   have := QqC (p := fun x => !decide (x.k = 0) && !decide (x.k = 2)) hx (by simp [hk])
   simp only [Qj,X.size]
   unfold ZB
   omega
 unfold ZC
 omega
theorem Dj {x : X} (h : Rt x) (h4 : x.k = 4) : ∀ y ∈ x.ks,Rt y ∧ y.k ≠ 4 := by
 obtain ⟨k,s,ks⟩ := x
 obtain rfl : k = 4 := h4
 obtain ⟨h1,h2⟩ := (Yv _).1 h
 rw [Ji] at h2
 split at h2
 ·cases h2
 ·rename_i hs
  have hs : s = S4.zero := Classical.byContradiction fun e => hs ⟨by decide,e⟩
  subst hs
  rw [if_neg (by decide),if_neg (by decide),if_neg (by decide),if_neg (by decide),if_pos rfl,Bool.and_eq_true,decide_eq_true_eq] at h2
  obtain ⟨hl,hc⟩ := h2
  have hc := J3 hc
  rw [MI] at hc
  have hF : ZC ks = ks := by
   have key : ∀ F : List X,F = ZC ks → ofL F 4 0 = .mk 4 S4.zero ks → F = ks := fun F hF e => by
    match F,hF,e with
    | [],_,e => injection e with e
    | [z],hF,e =>
     have e : z = .mk 4 S4.zero ks := e
     have hz : z ∈ ZC ks := by rw [← hF]; simp
     rcases Ky hz with ⟨a,_⟩ | ⟨a,_⟩
     ·rw [e] at a
      injection a with a
      exact absurd a (by decide)
     ·exact absurd e (CR a)
    | z :: w :: F,_,e => injection e
   exact key _ rfl hc
  intro y hy
  refine ⟨h1 y hy,fun hk => ?_⟩
  have a1 : Qj (flatK 4 ks) < Qj ks := Qd3 hy hk
  have a2 := Qo2 ks
  rw [hF] at a2
  omega
theorem QcU {l : List X} (h : ∀ x ∈ l,Rt x) {z : X} (hz : z ∈ flatK 4 l) : Rt z ∧ z.k ≠ 4 := by
 rcases QaB hz with ⟨h1,h2⟩ | ⟨y,hy,hk,hz⟩
 ·exact ⟨h z h1,h2⟩
 ·exact Dj (h y hy) hk z hz
theorem S4.join_self (s : S4) : s.join s = s := by
 cases s
 simp [S4.join]
theorem S4.zero_join (s : S4) : S4.zero.join s = s := by
 cases s
 simp [S4.join,S4.zero]
theorem Qc0 {s : S4} : ∀ {l : List X} {a : S4},(∀ x ∈ l,x.k = 2 → x.s = s) → (a = s ∨ (a = S4.zero ∧ ∃ x ∈ l,x.k = 2)) → Yq a l = s
 | [],a,_,h => by
  rcases h with rfl | ⟨_,x,hx,_⟩
  ·rfl
  ·simp at hx
 | x :: l,a,hs,h => by
  show Yq (if x.k = 2 then a.join x.s else a) l = s
  refine Qc0 (fun y hy => hs y (List.mem_cons_of_mem _ hy)) ?_
  by_cases hk : x.k = 2
  ·rw [if_pos hk,hs x List.mem_cons_self hk]
   rcases h with rfl | ⟨rfl,_⟩
   ·exact .inl (S4.join_self _)
   ·exact .inl (S4.zero_join _)
  ·rw [if_neg hk]
   rcases h with h | ⟨h,y,hy,h2⟩
   ·exact .inl h
   ·rcases List.mem_cons.1 hy with rfl | hy
    ·exact absurd h2 hk
    ·exact .inr ⟨h,y,hy,h2⟩
theorem CJ {t : K} {l : List X} {z : X} : z ∈ Ft t l ↔ z ∈ l ∧ txt z = t := by simp
theorem QcV (l : List X) (h : Zh (flatK 4 l) ≠ S4.zero) : .mk 2 (Zh (flatK 4 l)) [] ∈ ZC l := by
 have e := QcS l (txt (.mk 2 (Zh (flatK 4 l)) []))
 have hb : Zq (Zh (flatK 4 l)) = [.mk 2 (Zh (flatK 4 l)) []] := by rw [Zq,if_neg h]
 rw [hb,List.cons_append,List.nil_append,Jn,Jr,if_pos rfl,List.cons_append,List.take_succ_cons] at e
 have : X.mk 2 (Zh (flatK 4 l)) [] ∈ Ft (txt (.mk 2 (Zh (flatK 4 l)) [])) (ZC l) := by rw [e]; simp
 exact (CJ.1 this).1
theorem Qn6 (l : List X) : Zh (ZC l) = Zh (flatK 4 l) := by
 have hs : ∀ x ∈ ZC l,x.k = 2 → x.s = Zh (flatK 4 l) := fun x hx hk => by
  rcases Ky hx with ⟨rfl,_⟩ | ⟨_,_,h⟩
  ·rfl
  ·exact absurd hk h
 by_cases hz : Zh (flatK 4 l) = S4.zero
 ·rw [hz]
  refine BM _ fun x hx hk => ?_
  rcases Ky hx with ⟨_,h⟩ | ⟨_,_,h⟩
  ·exact h hz
  ·exact h hk
 ·exact Qc0 hs (.inr ⟨rfl,_,QcV l hz,rfl⟩)
theorem QoF {l : List X} (h : ∀ z ∈ flatK 4 l,z.k ≠ 4) : flatK 4 (ZC l) = ZC l := Ca fun z hz => by
 rcases Ky hz with ⟨rfl,_⟩ | ⟨a,_⟩
 ·show (2 : Int) ≠ 4
  decide
 ·exact h z a
theorem Qiy {l : List X} (h : ∀ z ∈ flatK 4 l,z.k ≠ 4) : ZC (ZC l) = ZC l := by
 refine SS.uniq (FJ _) (FJ _) fun t => ?_
 rw [QcS,QoF h,Qn6]
 have hlen := SS.ft (FJ l) t
 have hb : ∀ z,z ∈ Zq (Zh (flatK 4 l)) → z ∈ ZC l := fun z hz => by
  obtain ⟨rfl,h2⟩ := QbQ hz
  exact QcV l h2
 have hsub : ∀ z,z ∈ Ft t (Zq (Zh (flatK 4 l)) ++ ZB (ZC l)) ↔ z ∈ Ft t (ZC l) := fun z => by
  rw [CJ,CJ,List.mem_append]
  constructor
  ·rintro ⟨h1 | h1,h2⟩
   ·exact ⟨hb z h1,h2⟩
   ·exact ⟨(QcX h1).1,h2⟩
  ·rintro ⟨h1,h2⟩
   refine ⟨?_,h2⟩
   rcases Ky h1 with ⟨rfl,h3⟩ | ⟨_,h3,h4⟩
   ·left
    rw [Zq,if_neg h3]; simp
   ·right
    exact List.mem_filter.2 ⟨h1,by simp [h3,h4]⟩
 generalize hA : Ft t (Zq (Zh (flatK 4 l)) ++ ZB (ZC l)) = A at hsub
 generalize hB : Ft t (ZC l) = B at hsub hlen
 match B,hlen with
 | [],_ =>
  have : A = [] := List.eq_nil_iff_forall_not_mem.2 fun z hz => by simpa using (hsub z).1 hz
  rw [this]; rfl
 | [b],_ =>
  match A with
  | [] => have := (hsub b).2 (by simp); simp at this
  | a :: A =>
   have := (hsub a).1 (by simp)
   simp at this
   rw [this]; rfl
theorem DN {l : List X} (h : ∀ x ∈ l,Rt x) : Rt (Zd l) := by
 rw [MI]
 have hi := Qiy fun z hz => (QcU h hz).2
 have hm : ∀ z ∈ ZC l,Rt z := fun z hz => by
  rcases Ky hz with ⟨rfl,h2⟩ | ⟨a,_⟩
  ·exact QhO h2
  ·exact (QcU h a).1
 generalize ZC l = F at hi hm
 match F,hm,hi with
 | [],_,_ => exact Ui
 | [z],hm,_ => exact hm z (by simp)
 | z :: w :: F,hm,hi =>
  show Rt (.mk 4 S4.zero (z :: w :: F))
  rw [Yv]
  refine ⟨hm,?_⟩
  rw [Ji,if_neg (by simp),if_neg (by decide),if_neg (by decide),if_neg (by decide),if_neg (by decide),if_pos rfl,MI,hi,QlO (by simp),UL]
  simp
theorem Qrs {x : X} (h : Rt x) : Rt (Jh x) := by
 cases x with
 | mk k s ks =>
  rw [Ua]
  split
  ·exact Gp
  ·rename_i h01
   split
   ·exact h
   ·rename_i h5
    rw [Yv]
    refine ⟨fun y hy => ?_,?_⟩
    ·obtain rfl := List.mem_singleton.1 hy
     exact h
    ·rw [Ji,if_neg (by simp),if_neg (by decide),if_neg (by decide),if_pos rfl,List.headD_cons,Ua,if_neg h01,if_neg h5,UL]
     rfl
end Go.X7
end
section
namespace Go.X7
open Go Go.Ev Go.Srt
def il (e : X) (l : List X) : List X := l.flatMap fun x => [e,x]
abbrev x0 : X := .mk 0 S4.zero []
abbrev x1 : X := .mk 1 S4.zero []
end Go.X7
end
section
namespace Go.X7
open Go Go.Ev Go.Srt
def S4.hasB (s : S4) (b : Int) : Bool := decide (0 ≤ b) && decide (b < 256) && s.has b.toNat
mutual
def Zp : X → Bool
 | .mk k s ks => if k = 1 ∨ k = 5 then true else if k = 3 then Vu ks else if k = 4 then UG ks else false
def Vu : List X → Bool
 | [] => true
 | x :: l => Zp x && Vu l
def UG : List X → Bool
 | [] => false
 | x :: l => Zp x || UG l
end
mutual
def Qo (b : Int) : X → X
 | .mk k s ks => if k = 2 then (if s.hasB b = true then x1 else x0) else if k = 3 then Zd (Zu b ks) else if k = 4 then Zd (Zf b ks) else if k = 5 then JX b (.mk k s ks) ks else x0
def Zu (b : Int) : List X → List X
 | [] => []
 | x :: l => Q8 (Qo b x :: l) :: (if Zp x = true then Zu b l else [])
def Zf (b : Int) : List X → List X
 | [] => []
 | x :: l => Qo b x :: Zf b l
def JX (b : Int) (r : X) : List X → X
 | [] => x0
 | x :: l => if l.length = 0 then Q8 [Qo b x,r] else x0
end
theorem Qe7 (l : List X) : Vu l = l.all Zp := by
 induction l with
 | nil => rfl
 | cons x l ih => simp [Vu,ih]
theorem QgH (l : List X) : UG l = l.any Zp := by
 induction l with
 | nil => rfl
 | cons x l ih => simp [UG,ih]
theorem C7 (b : Int) (l : List X) : Zf b l = l.map (Qo b) := by
 induction l with
 | nil => rfl
 | cons x l ih => simp [Zf,ih]
theorem D8 (b : Int) (s : S4) (ks : List X) : Qo b (.mk 2 s ks) = if s.hasB b = true then x1 else x0 := by rw [Qo,if_pos rfl]
theorem Da (b : Int) (s : S4) (ks : List X) : Qo b (.mk 3 s ks) = Zd (Zu b ks) := by rw [Qo,if_neg (by decide),if_pos rfl]
theorem Cu (b : Int) (s : S4) (ks : List X) : Qo b (.mk 4 s ks) = Zd (Zf b ks) := by rw [Qo,if_neg (by decide),if_neg (by decide),if_pos rfl]
theorem Xd (b : Int) (s : S4) (a : X) : Qo b (.mk 5 s [a]) = Q8 [Qo b a,.mk 5 s [a]] := by
 rw [Qo,if_neg (by decide),if_neg (by decide),if_neg (by decide),if_pos rfl,JX]
 rfl
mutual
theorem Ki (b : Int) : ∀ {x : X},x.ok → (Qo b x).ok
 | .mk k s ks,h => by
  have ok0 : x0.ok := ⟨S4.zero_ok,trivial⟩
  have ok1 : x1.ok := ⟨S4.zero_ok,trivial⟩
  have hk := X.ok_kids h
  rw [Qo]
  split
  ·split
   ·exact ok1
   ·exact ok0
  ·split
   ·exact CO (Qg9 b hk)
   ·split
    ·exact CO (PH b hk)
    ·split
     ·exact Qov b h hk
     ·exact ok0
theorem Qg9 (b : Int) : ∀ {l : List X},(∀ x ∈ l,x.ok) → ∀ x ∈ Zu b l,x.ok
 | [],_,x,hx => by simp [Zu] at hx
 | y :: l,h,x,hx => by
  rw [Zu] at hx
  rcases List.mem_cons.1 hx with rfl | hx
  ·refine Nf fun z hz => ?_
   rcases List.mem_cons.1 hz with rfl | hz
   ·exact Ki b (h y List.mem_cons_self)
   ·exact h z (List.mem_cons_of_mem _ hz)
  ·split at hx
   ·exact Qg9 b (fun z hz => h z (List.mem_cons_of_mem _ hz)) x hx
   ·simp at hx
theorem PH (b : Int) : ∀ {l : List X},(∀ x ∈ l,x.ok) → ∀ x ∈ Zf b l,x.ok
 | [],_,x,hx => by simp [Zf] at hx
 | y :: l,h,x,hx => by
  rw [Zf] at hx
  rcases List.mem_cons.1 hx with rfl | hx
  ·exact Ki b (h y List.mem_cons_self)
  ·exact PH b (fun z hz => h z (List.mem_cons_of_mem _ hz)) x hx
theorem Qov (b : Int) {r : X} (hr : r.ok) : ∀ {l : List X},(∀ x ∈ l,x.ok) → (JX b r l).ok
 | [],_ => ⟨S4.zero_ok,trivial⟩
 | y :: l,h => by
  rw [JX]
  split
  ·refine Nf fun z hz => ?_
   simp only [List.mem_cons,List.not_mem_nil,or_false] at hz
   rcases hz with rfl | rfl
   ·exact Ki b (h y List.mem_cons_self)
   ·exact hr
  ·exact ⟨S4.zero_ok,trivial⟩
end
mutual
theorem WN (b : Int) : ∀ {x : X},Rt x → Rt (Qo b x)
 | .mk k s ks,h => by
  have hk := ((Yv _).1 h).1
  rw [Qo]
  split
  ·split
   ·exact Gp
   ·exact Ui
  ·split
   ·exact DN (An b hk)
   ·split
    ·exact DN (EX b hk)
    ·split
     ·exact QnS b h hk
     ·exact Ui
theorem An (b : Int) : ∀ {l : List X},(∀ x ∈ l,Rt x) → ∀ x ∈ Zu b l,Rt x
 | [],_,x,hx => by simp [Zu] at hx
 | y :: l,h,x,hx => by
  rw [Zu] at hx
  rcases List.mem_cons.1 hx with rfl | hx
  ·refine Cd fun z hz => ?_
   rcases List.mem_cons.1 hz with rfl | hz
   ·exact WN b (h y List.mem_cons_self)
   ·exact h z (List.mem_cons_of_mem _ hz)
  ·split at hx
   ·exact An b (fun z hz => h z (List.mem_cons_of_mem _ hz)) x hx
   ·simp at hx
theorem EX (b : Int) : ∀ {l : List X},(∀ x ∈ l,Rt x) → ∀ x ∈ Zf b l,Rt x
 | [],_,x,hx => by simp [Zf] at hx
 | y :: l,h,x,hx => by
  rw [Zf] at hx
  rcases List.mem_cons.1 hx with rfl | hx
  ·exact WN b (h y List.mem_cons_self)
  ·exact EX b (fun z hz => h z (List.mem_cons_of_mem _ hz)) x hx
theorem QnS (b : Int) {r : X} (hr : Rt r) : ∀ {l : List X},(∀ x ∈ l,Rt x) → Rt (JX b r l)
 | [],_ => Ui
 | y :: l,h => by
  rw [JX]
  split
  ·refine Cd fun z hz => ?_
   simp only [List.mem_cons,List.not_mem_nil,or_false] at hz
   rcases hz with rfl | rfl
   ·exact WN b (h y List.mem_cons_self)
   ·exact hr
  ·exact Ui
end
abbrev LIM : Nat := 20000000000
mutual
def Gd (b : Int) : X → Prop
 | .mk k s ks => if k = 3 then Qj (Zu b ks) + (ks.length + 2) ≤ LIM ∧ GdW b ks else if k = 4 then Qj (Zf b ks) ≤ LIM ∧ GdA b ks else if k = 5 then GdS b (.mk k s ks) ks else True
def GdW (b : Int) : List X → Prop
 | [] => True
 | x :: l => Gd b x ∧ (Qo b x).size + Qj l ≤ LIM ∧ (Zp x = true → GdW b l)
def GdA (b : Int) : List X → Prop
 | [] => True
 | x :: l => Gd b x ∧ GdA b l
def GdS (b : Int) (r : X) : List X → Prop
 | [] => True
 | x :: l => l.length = 0 → Gd b x ∧ (Qo b x).size + r.size ≤ LIM
end
theorem Dz {b : Int} : ∀ {l : List X},(∀ x ∈ l,(Qo b x).size ≤ 2 * (x.size * x.size)) → Qj (Zu b l) ≤ 2 * (Qj l * Qj l) + l.length
 | [],_ => by simp [Zu,Qj]
 | x :: l,h => by
  have h1 := h x List.mem_cons_self
  have h2 := Dz (b := b) fun y hy => h y (List.mem_cons_of_mem _ hy)
  have h3 := ED (Qo b x :: l)
  have h4 : Qj (if Zp x = true then Zu b l else []) ≤ Qj (Zu b l) := by
   split
   ·exact Nat.le_refl _
   ·simp [Qj]
  have hp := Yg x
  rw [Zu]
  simp only [Qj,List.length_cons] at h3 ⊢
  have e : (x.size + Qj l) * (x.size + Qj l) = x.size * x.size + 2 * (x.size * Qj l) + Qj l * Qj l := by
   rw [Nat.add_mul,Nat.mul_add,Nat.mul_add,Nat.mul_comm (Qj l) x.size]; omega
  have e2 : Qj l ≤ x.size * Qj l := Nat.le_mul_of_pos_left _ hp
  rw [e]
  omega
theorem TT {a b : Nat} (h : a + 1 ≤ b) : 2 * (a * a) + 4 * a + 2 ≤ 2 * (b * b) := by
 have := Nat.mul_le_mul h h
 rw [Nat.add_mul,Nat.mul_add,Nat.mul_add] at this
 omega
theorem A6 {b : Int} : ∀ {l : List X},(∀ x ∈ l,(Qo b x).size ≤ 2 * (x.size * x.size)) → Qj (Zf b l) ≤ 2 * (Qj l * Qj l)
 | [],_ => by simp [Zf,Qj]
 | x :: l,h => by
  have h1 := h x List.mem_cons_self
  have h2 := A6 (b := b) fun y hy => h y (List.mem_cons_of_mem _ hy)
  rw [Zf]
  simp only [Qj]
  have e : (x.size + Qj l) * (x.size + Qj l) = x.size * x.size + 2 * (x.size * Qj l) + Qj l * Qj l := by
   rw [Nat.add_mul,Nat.mul_add,Nat.mul_add,Nat.mul_comm (Qj l) x.size]; omega
  rw [e]
  omega
theorem RL (b : Int) : ∀ (n : Nat) (x : X),x.size ≤ n → (Qo b x).size ≤ 2 * (x.size * x.size)
 | 0,x,h => by have := Yg x; omega
 | n + 1,.mk k s ks,h => by
  have hsz : Qj ks ≤ n := by simp only [X.size] at h; omega
  have hk : ∀ x ∈ ks,(Qo b x).size ≤ 2 * (x.size * x.size) := fun x hx => RL b n x (Nat.le_trans (Yl hx) hsz)
  have hp := TT (a := Qj ks) (b := (X.mk k s ks).size) (by simp only [X.size]; omega)
  have hl := Yp ks
  have e0 : x0.size = 1 := rfl
  have e1 : x1.size = 1 := rfl
  rw [Qo]
  split
  ·split <;> omega
  ·split
   ·have h1 := Gr (Zu b ks)
    have h2 := Dz hk
    simp only [X.size] at hp ⊢
    by_cases hz : ks.length = 0
    ·have : ks = [] := List.length_eq_zero_iff.1 hz
     subst this
     have e2 : Qj (Zu b []) = 0 := rfl
     have e3 : Qj [] = 0 := rfl
     omega
    ·have := TT (a := Qj ks) (b := 1 + Qj ks) (by omega)
     omega
   ·split
    ·have h1 := Gr (Zf b ks)
     have h2 := A6 hk
     simp only [X.size] at hp ⊢
     omega
    ·split
     ·match ks,hk,hp with
      | [],_,hp => rw [JX]; omega
      | a :: l,hk,hp =>
       rw [JX]
       split
       ·rename_i h0
        have hln : l = [] := List.length_eq_zero_iff.1 h0
        subst hln
        have h1 := ED [Qo b a,.mk k s [a]]
        have h2 := hk a List.mem_cons_self
        simp only [Qj,X.size,Nat.add_zero] at h1 hp ⊢
        have := Yg a
        omega
       ·omega
     ·omega
mutual
theorem WL (b : Int) : ∀ (x : X),x.size ≤ 90000 → Gd b x
 | .mk k s ks,h => by
  have hsz : Qj ks ≤ 90000 := by simp only [X.size] at h; omega
  have hl := Yp ks
  have hq := Nat.mul_le_mul hsz hsz
  have hk : ∀ x ∈ ks,(Qo b x).size ≤ 2 * (x.size * x.size) := fun x hx => RL b x.size x (Nat.le_refl _)
  have e0 : LIM = 20000000000 := rfl
  rw [Gd]
  split
  ·refine ⟨?_,QaE b ks hsz⟩
   have := Dz hk
   omega
  ·split
   ·refine ⟨?_,QdO b ks hsz⟩
    have := A6 hk
    omega
   ·split
    ·exact Qja b _ ks h hsz
    ·trivial
theorem QaE (b : Int) : ∀ (l : List X),Qj l ≤ 90000 → GdW b l
 | [],_ => trivial
 | x :: l,h => by
  simp only [Qj] at h
  have h1 := RL b x.size x (Nat.le_refl _)
  have hq := Nat.mul_le_mul (show x.size ≤ 90000 by omega) (show x.size ≤ 90000 by omega)
  have e0 : LIM = 20000000000 := rfl
  rw [GdW]
  exact ⟨WL b x (by omega),by omega,fun _ => QaE b l (by omega)⟩
theorem QdO (b : Int) : ∀ (l : List X),Qj l ≤ 90000 → GdA b l
 | [],_ => trivial
 | x :: l,h => by
  simp only [Qj] at h
  rw [GdA]
  exact ⟨WL b x (by omega),QdO b l (by omega)⟩
theorem Qja (b : Int) (r : X) : ∀ (l : List X),r.size ≤ 90000 → Qj l ≤ 90000 → GdS b r l
 | [],_,_ => trivial
 | x :: l,hr,h => by
  simp only [Qj] at h
  have h1 := RL b x.size x (Nat.le_refl _)
  have hq := Nat.mul_le_mul (show x.size ≤ 90000 by omega) (show x.size ≤ 90000 by omega)
  have e0 : LIM = 20000000000 := rfl
  rw [GdS]
  exact fun _ => ⟨WL b x (by omega),by omega⟩
end
end Go.X7
end
section
namespace Go.X7
open Go Go.Ev Go.Srt
def conv (f g : Nat → Nat) : Nat → Nat
 | 0 => f 0 * g 0
 | n + 1 => f 0 * g (n + 1) + conv (fun k => f (k + 1)) g n
theorem BB {f f' g g' : Nat → Nat} : ∀ (n : Nat),(∀ k,k ≤ n → f k ≤ f' k) → (∀ k,k ≤ n → g k ≤ g' k) → conv f g n ≤ conv f' g' n := by
 intro n
 induction n generalizing f f' with
 | zero => intro h k; exact Nat.mul_le_mul (h 0 (Nat.le_refl _)) (k 0 (Nat.le_refl _))
 | succ n ih =>
  intro h k
  exact Nat.add_le_add (Nat.mul_le_mul (h 0 (Nat.zero_le _)) (k _ (Nat.le_refl _))) (ih (fun j hj => h (j + 1) (by omega)) fun j hj => k j (by omega))
theorem AO (f g h : Nat → Nat) : ∀ n,conv f (fun k => g k + h k) n = conv f g n + conv f h n := by
 intro n
 induction n generalizing f with
 | zero => simp only [conv,Nat.mul_add]
 | succ n ih => simp only [conv,ih,Nat.mul_add]; omega
theorem QoP (f f' g : Nat → Nat) : ∀ n,conv (fun k => f k + f' k) g n = conv f g n + conv f' g n := by
 intro n
 induction n generalizing f f' with
 | zero => simp only [conv,Nat.add_mul]
 | succ n ih => simp only [conv,Nat.add_mul]; rw [ih (fun k => f (k + 1)) fun k => f' (k + 1)]; omega
theorem QoZ (c : Nat) (f g : Nat → Nat) : ∀ n,conv (fun k => c * f k) g n = c * conv f g n := by
 intro n
 induction n generalizing f with
 | zero => simp only [conv,Nat.mul_assoc]
 | succ n ih => simp only [conv,Nat.mul_add,Nat.mul_assoc]; rw [ih fun k => f (k + 1)]
theorem Qli (c : Nat) (f g : Nat → Nat) : ∀ n,conv f (fun k => c * g k) n = c * conv f g n := by
 intro n
 induction n generalizing f with
 | zero => simp only [conv,Nat.mul_left_comm]
 | succ n ih => simp only [conv,Nat.mul_add,Nat.mul_left_comm c,ih]
theorem Vd (f g : Nat → Nat) (n : Nat) : conv f g (n + 1) = f 0 * g (n + 1) + conv (fun k => f (k + 1)) g n := rfl
theorem CI (f g h : Nat → Nat) : ∀ n,conv f (conv g h) n = conv (conv f g) h n := by
 intro n
 induction n generalizing f with
 | zero => simp only [conv,Nat.mul_assoc]
 | succ n ih =>
  rw [Vd,ih,Vd,Vd]
  have e : (fun k => conv f g (k + 1)) = fun k => f 0 * g (k + 1) + conv (fun k => f (k + 1)) g k := rfl
  rw [e,QoP,QoZ]
  simp only [conv,Nat.mul_add,Nat.mul_assoc]
  omega
def dl : Nat → Nat := fun n => if n = 0 then 1 else 0
theorem QkV (g : Nat → Nat) : ∀ n,conv (fun _ => 0) g n = 0 := by
 intro n
 induction n with
 | zero => simp [conv]
 | succ n ih => simp only [conv,Nat.zero_mul,ih]
theorem QbP (f : Nat → Nat) : ∀ n,conv f (fun _ => 0) n = 0 := by
 intro n
 induction n generalizing f with
 | zero => simp [conv]
 | succ n ih => simp only [conv,Nat.mul_zero,ih]
theorem P4 (g : Nat → Nat) (n : Nat) : conv dl g n = g n := by
 cases n with
 | zero => simp [conv,dl]
 | succ n =>
  rw [Vd]
  have : (fun k => dl (k + 1)) = fun _ => 0 := rfl
  rw [this,QkV]
  simp [dl]
theorem Qn7 (f : Nat → Nat) : ∀ n,conv f dl n = f n := by
 intro n
 induction n generalizing f with
 | zero => simp [conv,dl]
 | succ n ih => rw [Vd,ih]; simp [dl]
def Wg (h f : Nat → Nat) : Nat → Nat → Nat
 | _,0 => h 0
 | 0,n + 1 => h (n + 1)
 | m + 1,n + 1 => h (n + 1) + conv f (Wg h f m) n
theorem Qg0 {f g g' : Nat → Nat} (n : Nat) (h : ∀ k,k ≤ n → g k = g' k) : conv f g n = conv f g' n :=
 Nat.le_antisymm (BB n (fun _ _ => Nat.le_refl _) fun k hk => Nat.le_of_eq (h k hk)) (BB n (fun _ _ => Nat.le_refl _) fun k hk => Nat.le_of_eq (h k hk).symm)
theorem Qm4 (h f : Nat → Nat) : ∀ (m m' n : Nat),n ≤ m → n ≤ m' → Wg h f m n = Wg h f m' n := by
 intro m
 induction m with
 | zero =>
  intro m' n h1 h2
  obtain rfl : n = 0 := by omega
  cases m' <;> rfl
 | succ m ih =>
  intro m' n h1 h2
  cases n with
  | zero => cases m' <;> rfl
  | succ n =>
   cases m' with
   | zero => omega
   | succ m' =>
    simp only [Wg]
    rw [Qg0 n fun k hk => ih m' k (by omega) (by omega)]
def U5 (h f : Nat → Nat) (n : Nat) : Nat := Wg h f n n
theorem Qnr (h f : Nat → Nat) : U5 h f 0 = h 0 := rfl
theorem Xz (h f : Nat → Nat) (n : Nat) : U5 h f (n + 1) = h (n + 1) + conv f (U5 h f) n := by
 unfold U5
 rw [Wg,Qg0 n fun k hk => Qm4 h f n k k hk (Nat.le_refl _)]
theorem Cn {h h' f f' : Nat → Nat} : ∀ (m n : Nat),(∀ k,k ≤ n → h k ≤ h' k) → (∀ k,k < n → f k ≤ f' k) → Wg h f m n ≤ Wg h' f' m n := by
 intro m
 induction m with
 | zero => intro n a b; cases n <;> exact a _ (Nat.le_refl _)
 | succ m ih =>
  intro n a b
  cases n with
  | zero => exact a _ (Nat.le_refl _)
  | succ n =>
   simp only [Wg]
   exact Nat.add_le_add (a _ (Nat.le_refl _)) (BB n (fun k hk => b k (by omega)) fun k hk => ih k (fun j hj => a j (by omega)) fun j hj => b j (by omega))
structure Me where
 p : Nat
 t : Nat → Nat
 s : Nat → Nat
 v : Nat → Nat
def Me.sh (A : Me) : Me := ⟨A.s 0,fun n => A.t (n + 1),fun n => A.s (n + 1),fun n => A.v (n + 1)⟩
def Me.cat (A B : Me) : Me := ⟨A.p + B.p,fun n => A.t n + conv A.v B.t n,fun n => A.s n + B.p * A.t n + conv A.v B.s n,conv A.v B.v⟩
def Me.or (A B : Me) : Me := ⟨A.p + B.p,fun n => max (A.t n) (B.t n),fun n => A.s n + B.s n,fun n => max (A.v n) (B.v n)⟩
def Me.zero : Me := ⟨0,fun _ => 0,fun _ => 0,fun _ => 0⟩
def Me.e : Me := ⟨0,fun _ => 0,fun _ => 0,dl⟩
def Me.emp : Me := ⟨1,fun _ => 0,fun _ => 0,dl⟩
def Me.byte : Me := ⟨1,dl,dl,fun n => if n = 1 then 1 else 0⟩
def Me.star (A : Me) : Me := ⟨A.p + 1,U5 (fun n => if n = 0 then 1 else A.t n) (fun n => A.v (n + 1)),U5 (fun n => if n = 0 then A.s 0 + (A.p + 1) else A.s n + (A.p + 1) * A.t n) (fun n => A.v (n + 1)),U5 dl fun n => A.v (n + 1)⟩
structure Me.le (N : Nat) (A B : Me) : Prop where
 p : A.p ≤ B.p
 t : ∀ n,n < N → A.t n ≤ B.t n
 s : ∀ n,n < N → A.s n ≤ B.s n
 v : ∀ n,n < N → A.v n ≤ B.v n
theorem Me.le.refl (N : Nat) (A : Me) : Me.le N A A := ⟨Nat.le_refl _,fun _ _ => Nat.le_refl _,fun _ _ => Nat.le_refl _,fun _ _ => Nat.le_refl _⟩
theorem Me.le.trans {N : Nat} {A B C : Me} (h : Me.le N A B) (g : Me.le N B C) : Me.le N A C := ⟨Nat.le_trans h.p g.p,fun n hn => Nat.le_trans (h.t n hn) (g.t n hn),fun n hn => Nat.le_trans (h.s n hn) (g.s n hn),fun n hn => Nat.le_trans (h.v n hn) (g.v n hn)⟩
theorem Me.cat_le {N : Nat} {A A' B B' : Me} (h : Me.le N A A') (g : Me.le N B B') : Me.le N (A.cat B) (A'.cat B') := ⟨Nat.add_le_add h.p g.p,
 fun n hn => Nat.add_le_add (h.t n hn) (BB n (fun k hk => h.v k (by omega)) fun k hk => g.t k (by omega)),
 fun n hn => Nat.add_le_add (Nat.add_le_add (h.s n hn) (Nat.mul_le_mul g.p (h.t n hn))) (BB n (fun k hk => h.v k (by omega)) fun k hk => g.s k (by omega)),
 fun n hn => BB n (fun k hk => h.v k (by omega)) fun k hk => g.v k (by omega)⟩
theorem Me.or_le {N : Nat} {A A' B B' : Me} (h : Me.le N A A') (g : Me.le N B B') : Me.le N (A.or B) (A'.or B') := ⟨Nat.add_le_add h.p g.p,
 fun n hn => by have := h.t n hn; have := g.t n hn; simp only [Me.or]; omega,fun n hn => Nat.add_le_add (h.s n hn) (g.s n hn),fun n hn => by have := h.v n hn; have := g.v n hn; simp only [Me.or]; omega⟩
theorem Me.star_le {N : Nat} {A A' : Me} (h : Me.le N A A') : Me.le N A.star A'.star := ⟨Nat.add_le_add_right h.p 1,
 fun n hn => Cn n n (fun k hk => by
  show (if k = 0 then 1 else A.t k) ≤ if k = 0 then 1 else A'.t k
  split
  ·exact Nat.le_refl _
  ·exact h.t k (by omega)) fun k hk => h.v (k + 1) (by omega),
 fun n hn => Cn n n (fun k hk => by
  show (if k = 0 then A.s 0 + (A.p + 1) else A.s k + (A.p + 1) * A.t k) ≤ if k = 0 then A'.s 0 + (A'.p + 1) else A'.s k + (A'.p + 1) * A'.t k
  split
  ·rename_i e; subst e; exact Nat.add_le_add (h.s 0 (by omega)) (Nat.add_le_add_right h.p 1)
  ·exact Nat.add_le_add (h.s k (by omega)) (Nat.mul_le_mul (Nat.add_le_add_right h.p 1) (h.t k (by omega)))) fun k hk => h.v (k + 1) (by omega),
 fun n hn => Cn n n (fun _ _ => Nat.le_refl _) fun k hk => h.v (k + 1) (by omega)⟩
theorem Me.sh_le {N : Nat} {A B : Me} (h : Me.le (N + 1) A B) : Me.le N A.sh B.sh := ⟨h.s 0 (by omega),fun n hn => h.t (n + 1) (by omega),fun n hn => h.s (n + 1) (by omega),fun n hn => h.v (n + 1) (by omega)⟩
theorem Me.ext {A B : Me} (hp : A.p = B.p) (ht : ∀ n,A.t n = B.t n) (hs : ∀ n,A.s n = B.s n) (hv : ∀ n,A.v n = B.v n) : A = B := by
 obtain ⟨p,t,s,v⟩ := A
 obtain ⟨p',t',s',v'⟩ := B
 obtain rfl : p = p' := hp
 obtain rfl : t = t' := funext ht
 obtain rfl : s = s' := funext hs
 obtain rfl : v = v' := funext hv
 rfl
theorem Me.cat_assoc (A B C : Me) : A.cat (B.cat C) = (A.cat B).cat C := Me.ext (by simp only [Me.cat]; omega)
 (fun n => by simp only [Me.cat]; rw [AO,CI]; omega)
 (fun n => by
  simp only [Me.cat]
  rw [show (fun n => B.s n + C.p * B.t n + conv B.v C.s n) = fun n => (B.s n + C.p * B.t n) + conv B.v C.s n from rfl,AO,AO,Qli,CI,Nat.add_mul,Nat.mul_add]
  omega)
 fun n => by simp only [Me.cat]; exact CI ..
theorem Me.e_cat (A : Me) : Me.e.cat A = A := Me.ext (by simp [Me.cat,Me.e]) (fun n => by simp only [Me.cat,Me.e,P4]; omega) (fun n => by simp only [Me.cat,Me.e,P4]; omega) fun n => by simp only [Me.cat,Me.e,P4]
theorem Me.cat_e (A : Me) : A.cat Me.e = A := Me.ext (by simp [Me.cat,Me.e]) (fun n => by simp only [Me.cat,Me.e,QbP]; omega) (fun n => by simp only [Me.cat,Me.e,QbP]; omega) fun n => by simp only [Me.cat,Me.e,Qn7]
theorem Me.or_assoc (A B C : Me) : A.or (B.or C) = (A.or B).or C := Me.ext (by simp only [Me.or]; omega) (fun n => by simp only [Me.or]; omega) (fun n => by simp only [Me.or]; omega) fun n => by simp only [Me.or]; omega
theorem Me.zero_or (A : Me) : Me.zero.or A = A := Me.ext (by simp [Me.or,Me.zero]) (fun n => by simp only [Me.or,Me.zero]; omega) (fun n => by simp only [Me.or,Me.zero]; omega) fun n => by simp only [Me.or,Me.zero]; omega
theorem Me.or_zero (A : Me) : A.or Me.zero = A := Me.ext (by simp [Me.or,Me.zero]) (fun n => by simp only [Me.or,Me.zero]; omega) (fun n => by simp only [Me.or,Me.zero]; omega) fun n => by simp only [Me.or,Me.zero]; omega
theorem Me.le_or_left (N : Nat) (A B : Me) : Me.le N A (A.or B) := ⟨Nat.le_add_right _ _,fun n _ => by simp only [Me.or]; omega,fun n _ => Nat.le_add_right _ _,fun n _ => by simp only [Me.or]; omega⟩
theorem Me.star_sh (A : Me) : A.star.sh = A.sh.cat A.star := Me.ext (by simp only [Me.star,Me.sh,Me.cat,Qnr]; rfl)
 (fun n => by simp only [Me.star,Me.sh,Me.cat]; rw [Xz,if_neg (by omega)])
 (fun n => by simp only [Me.star,Me.sh,Me.cat]; rw [Xz,if_neg (by omega)])
 fun n => by
  simp only [Me.star,Me.sh,Me.cat]
  rw [Xz]
  simp [dl]
end Go.X7
end
section
namespace Go.X7
open Go Go.Ev Go.Srt
mutual
def mX : X → Me
 | .mk k s ks => if k = 1 then Me.emp else if k = 2 then Me.byte else if k = 3 then mC ks else if k = 4 then mE ks else if k = 5 then mS ks else Me.zero
def mC : List X → Me
 | [] => Me.e
 | x :: l => (mX x).cat (mC l)
def mE : List X → Me
 | [] => Me.zero
 | x :: l => (mX x).or (mE l)
def mS : List X → Me
 | [] => Me.zero
 | x :: l => (mX x).star
end
theorem Qms (s : S4) (ks : List X) : mX (.mk 2 s ks) = Me.byte := rfl
theorem NP (s : S4) (ks : List X) : mX (.mk 3 s ks) = mC ks := rfl
theorem B7 (s : S4) (ks : List X) : mX (.mk 4 s ks) = mE ks := rfl
theorem Pt (s : S4) (a : X) : mX (.mk 5 s [a]) = (mX a).star := rfl
theorem zero_le (N : Nat) (A : Me) : Me.le N Me.zero A := ⟨Nat.zero_le _,fun _ _ => Nat.zero_le _,fun _ _ => Nat.zero_le _,fun _ _ => Nat.zero_le _⟩
theorem QbJ (N : Nat) : Me.le N Me.e Me.emp := ⟨Nat.zero_le _,fun _ _ => Nat.le_refl _,fun _ _ => Nat.le_refl _,fun _ _ => Nat.le_refl _⟩
theorem QcG : ∀ l m : List X,mC (l ++ m) = (mC l).cat (mC m)
 | [],m => (Me.e_cat _).symm
 | x :: l,m => by rw [List.cons_append,mC,mC,QcG l m,Me.cat_assoc]
theorem XP : ∀ l m : List X,mE (l ++ m) = (mE l).or (mE m)
 | [],m => (Me.zero_or _).symm
 | x :: l,m => by rw [List.cons_append,mE,mE,XP l m,Me.or_assoc]
theorem Qi9 (l : List X) : mC (flatK 3 l) = mC l := by
 induction l with
 | nil => rfl
 | cons x l ih =>
  have e : flatK 3 (x :: l) = (if x.k = 3 then x.ks else [x]) ++ flatK 3 l := rfl
  rw [e,QcG,ih,mC]
  congr 1
  cases x with
  | mk k s ks =>
   show mC (if k = 3 then ks else [.mk k s ks]) = _
   split
   ·rename_i h; subst h; rfl
   ·rw [mC,mC,Me.cat_e]
theorem Qor (l : List X) : mE (flatK 4 l) = mE l := by
 induction l with
 | nil => rfl
 | cons x l ih =>
  have e : flatK 4 (x :: l) = (if x.k = 4 then x.ks else [x]) ++ flatK 4 l := rfl
  rw [e,XP,ih,mE]
  congr 1
  cases x with
  | mk k s ks =>
   show mE (if k = 4 then ks else [.mk k s ks]) = _
   split
   ·rename_i h; subst h; rfl
   ·rw [mE,mE,Me.or_zero]
theorem Cz {x : X} (h : x.k = 1) : mX x = Me.emp := by
 cases x with
 | mk k s ks => obtain rfl : k = 1 := h; rfl
theorem C4 {x : X} (h : x.k = 2) : mX x = Me.byte := by
 cases x with
 | mk k s ks => obtain rfl : k = 2 := h; rfl
theorem Qm3 (N : Nat) (l : List X) : Me.le N (mC (l.filter fun x => !decide (x.k = 1))) (mC l) := by
 induction l with
 | nil => exact Me.le.refl _ _
 | cons x l ih =>
  rw [List.filter_cons]
  split
  ·rw [mC,mC]; exact Me.cat_le (Me.le.refl _ _) ih
  ·rename_i h
   have h1 : x.k = 1 := by simpa using h
   rw [mC,Cz h1]
   have := Me.cat_le (QbJ N) ih
   rwa [Me.e_cat] at this
theorem XW : ∀ l : List X,(∀ x ∈ l,x.k = 1) → ∀ n,(mC l).v n = dl n
 | [],_,n => rfl
 | x :: l,h,n => by
  rw [mC,Cz (h x List.mem_cons_self)]
  show conv dl (mC l).v n = dl n
  rw [P4]
  exact XW l (fun y hy => h y (List.mem_cons_of_mem _ hy)) n
theorem DW {s : S4} {ks : List X} (h : Rt (.mk 3 s ks)) : 1 < ks.length := by
 have h2 := ((Yv _).1 h).2
 rw [Ji] at h2
 split at h2
 ·cases h2
 ·rw [if_neg (by decide),if_neg (by decide),if_neg (by decide),if_pos rfl,Bool.and_eq_true,decide_eq_true_eq] at h2
  exact h2.1
theorem AT {l : List X} (hl : l ≠ []) (h : ∀ x ∈ l,Rt x) (N : Nat) : Me.le N (mX (Q8 l)) (mC l) := by
 rw [PL]
 split
 ·exact zero_le _ _
 ·have hb : Me.le N (mC (JA l)) (mC l) := by
   have := Qm3 N (flatK 3 l)
   rwa [Qi9] at this
  have h1 : JA l = [] → ∀ x ∈ l,x.k = 1 := fun e x hx => Classical.byContradiction fun hk => by
   by_cases h3 : x.k = 3
   ·cases x with
    | mk k s ks =>
     obtain rfl : k = 3 := h3
     have hlen := DW (h _ hx)
     obtain ⟨y,hy⟩ : ∃ y,y ∈ ks := List.exists_mem_of_length_pos (by omega)
     have hy1 := (Bv (h _ hx) rfl y hy).2.2.2
     have : y ∈ JA l := List.mem_filter.2 ⟨List.mem_flatMap.2 ⟨_,hx,by rw [if_pos (by rfl)]; exact hy⟩,by simp [hy1]⟩
     rw [e] at this
     simp at this
   ·have : x ∈ JA l := List.mem_filter.2 ⟨List.mem_flatMap.2 ⟨_,hx,by rw [if_neg h3]; simp⟩,by simp [hk]⟩
    rw [e] at this
    simp at this
  generalize JA l = F at hb h1
  match F,hb,h1 with
  | [],_,h1 =>
   show Me.le N Me.emp (mC l)
   obtain ⟨x,l,rfl⟩ := List.exists_cons_of_ne_nil hl
   have hv := XW _ (h1 rfl)
   refine ⟨?_,fun _ _ => Nat.zero_le _,fun _ _ => Nat.zero_le _,fun n _ => Nat.le_of_eq (hv n).symm⟩
   rw [mC,Cz (h1 rfl x List.mem_cons_self)]
   exact Nat.le_add_right 1 _
  | [z],hb,_ =>
   rw [mC,mC,Me.cat_e] at hb
   exact hb
  | z :: w :: F,hb,_ => exact hb
def ZG (w : X → Nat) : List X → Nat
 | [] => 0
 | x :: l => w x + ZG w l
theorem Qb5 (w : X → Nat) (l m : List X) : ZG w (l ++ m) = ZG w l + ZG w m := by
 induction l with
 | nil => simp [ZG]
 | cons x l ih => rw [List.cons_append,ZG,ZG,ih]; omega
theorem Ax (w : X → Nat) (p : X → Bool) (l : List X) : ZG w (l.filter p) ≤ ZG w l := by
 induction l with
 | nil => exact Nat.le_refl _
 | cons x l ih => rw [List.filter_cons]; split <;> simp only [ZG] <;> omega
theorem QjE (w : X → Nat) (r : X) (l : List X) : ZG w (Q4 r l) ≤ ZG w l + w r := by
 induction l with
 | nil => simp [Q4,ZG]
 | cons y l ih =>
  unfold Q4
  split
  ·simp only [ZG]; omega
  ·split
   ·simp only [ZG]; omega
   ·simp only [ZG]; omega
theorem Tj (w : X → Nat) : ∀ (o b : List X),ZG w (o.foldl (fun a r => Q4 r a) b) ≤ ZG w b + ZG w o
 | [],b => by simp [ZG]
 | r :: o,b => by
  have h1 := Tj w o (Q4 r b)
  have h2 := QjE w r b
  simp only [List.foldl_cons,ZG]; omega
theorem QaD {w : X → Nat} {c : Nat} (hw : ∀ x : X,x.k = 2 → w x = c) (l : List X) : ZG w (ZC l) ≤ ZG w (flatK 4 l) := by
 have h2 := Tj w (ZB (flatK 4 l)) (Zq (Zh (flatK 4 l)))
 have h4 : ZG w (Zq (Zh (flatK 4 l))) + ZG w (ZB (flatK 4 l)) ≤ ZG w (flatK 4 l) := by
  by_cases hz : Zh (flatK 4 l) = S4.zero
  ·rw [Zq,if_pos hz]
   have := Ax w (fun x => !decide (x.k = 0) && !decide (x.k = 2)) (flatK 4 l)
   simp only [ZG]
   unfold ZB
   omega
  ·rw [Zq,if_neg hz]
   have : ∃ x ∈ flatK 4 l,x.k = 2 := Classical.byContradiction fun hc => hz (BM _ fun x hx h2 => hc ⟨x,hx,h2⟩)
   obtain ⟨x,hx,hk⟩ := this
   obtain ⟨a,b,e⟩ := List.append_of_mem hx
   rw [e]
   unfold ZB
   rw [List.filter_append,List.filter_cons,if_neg (by simp [hk]),Qb5,Qb5]
   have ha := Ax w (fun x => !decide (x.k = 0) && !decide (x.k = 2)) a
   have hb := Ax w (fun x => !decide (x.k = 0) && !decide (x.k = 2)) b
   simp only [ZG,hw x hk,hw (.mk 2 (Zh (a ++ x :: b)) []) rfl]
   omega
 unfold ZC
 omega
theorem QfT (l : List X) : (mE l).p = ZG (fun x => (mX x).p) l := by
 induction l with
 | nil => rfl
 | cons x l ih => rw [mE,ZG,← ih]; rfl
theorem QbV (l : List X) (n : Nat) : (mE l).s n = ZG (fun x => (mX x).s n) l := by
 induction l with
 | nil => rfl
 | cons x l ih => rw [mE,ZG,← ih]; rfl
theorem D5 {l : List X} {n c : Nat} : (mE l).t n ≤ c ↔ ∀ x ∈ l,(mX x).t n ≤ c := by
 induction l with
 | nil => simp [mE,Me.zero]
 | cons x l ih => rw [mE]; simp only [Me.or,Nat.max_le,ih,List.forall_mem_cons]
theorem Ai {l : List X} {n c : Nat} : (mE l).v n ≤ c ↔ ∀ x ∈ l,(mX x).v n ≤ c := by
 induction l with
 | nil => simp [mE,Me.zero]
 | cons x l ih => rw [mE]; simp only [Me.or,Nat.max_le,ih,List.forall_mem_cons]
theorem CV (l : List X) (N : Nat) : Me.le N (mX (Zd l)) (mE l) := by
 have hb : Me.le N (mE (ZC l)) (mE l) := by
  have hm : ∀ x ∈ ZC l,∃ y ∈ flatK 4 l,mX x = mX y := fun x hx => by
   rcases Ky hx with ⟨rfl,hz⟩ | ⟨h,_⟩
   ·have : ∃ x ∈ flatK 4 l,x.k = 2 := Classical.byContradiction fun hc => hz (BM _ fun x hx h2 => hc ⟨x,hx,h2⟩)
    obtain ⟨y,hy,hk⟩ := this
    exact ⟨y,hy,by rw [C4 hk]; rfl⟩
   ·exact ⟨x,h,rfl⟩
  rw [← Qor l]
  refine ⟨?_,fun n _ => ?_,fun n _ => ?_,fun n _ => ?_⟩
  ·rw [QfT,QfT]
   exact QaD (c := Me.byte.p) (fun x hk => by rw [C4 hk]) l
  ·refine D5.2 fun x hx => ?_
   obtain ⟨y,hy,e⟩ := hm x hx
   rw [e]
   exact D5.1 (Nat.le_refl _) y hy
  ·rw [QbV,QbV]
   exact QaD (c := Me.byte.s n) (fun x hk => by rw [C4 hk]) l
  ·refine Ai.2 fun x hx => ?_
   obtain ⟨y,hy,e⟩ := hm x hx
   rw [e]
   exact Ai.1 (Nat.le_refl _) y hy
 rw [MI]
 generalize ZC l = F at hb
 match F,hb with
 | [],_ => exact zero_le _ _
 | [z],hb =>
  rw [mE,mE,Me.or_zero] at hb
  exact hb
 | z :: w :: F,hb => exact hb
theorem X0 {s : S4} {ks : List X} (h : Rt (.mk 4 s ks)) : 1 < ks.length ∧ ZC ks = ks := by
 obtain ⟨h1,h2⟩ := (Yv _).1 h
 rw [Ji] at h2
 split at h2
 ·cases h2
 ·rename_i hs
  have hs : s = S4.zero := Classical.byContradiction fun e => hs ⟨by decide,e⟩
  subst hs
  rw [if_neg (by decide),if_neg (by decide),if_neg (by decide),if_neg (by decide),if_pos rfl,Bool.and_eq_true,decide_eq_true_eq] at h2
  obtain ⟨hl,hc⟩ := h2
  have hc := J3 hc
  rw [MI] at hc
  refine ⟨hl,?_⟩
  have key : ∀ F : List X,F = ZC ks → ofL F 4 0 = .mk 4 S4.zero ks → F = ks := fun F hF e => by
   match F,hF,e with
   | [],_,e => injection e with e
   | [z],hF,e =>
    have e : z = .mk 4 S4.zero ks := e
    have hz : z ∈ ZC ks := by rw [← hF]; simp
    rcases Ky hz with ⟨a,_⟩ | ⟨a,_⟩
    ·rw [e] at a
     injection a with a
     exact absurd a (by decide)
    ·exact absurd e (CR a)
   | z :: w :: F,_,e => injection e
  exact key _ rfl hc
theorem FO {x : X} (h : Rt x) (h1 : x.k = 1 ∨ x.k = 0) : x = .mk x.k S4.zero [] := by
 cases x with
 | mk k s ks =>
  have h2 := ((Yv _).1 h).2
  have h1 : k = 1 ∨ k = 0 := h1
  rw [Ji] at h2
  split at h2
  ·cases h2
  ·rename_i hs
   have hs : s = S4.zero := Classical.byContradiction fun e => hs ⟨by omega,e⟩
   rw [if_pos (by omega),decide_eq_true_eq] at h2
   subst hs
   rw [List.length_eq_zero_iff.1 h2]
   rfl
theorem QjL {x : X} (h : Rt x) (h1 : x.k = 2) : x.ks = [] ∧ x.s ≠ S4.zero := by
 cases x with
 | mk k s ks =>
  have h2 := ((Yv _).1 h).2
  obtain rfl : k = 2 := h1
  rw [Ji,if_neg (by simp),if_neg (by decide),if_pos rfl,Bool.and_eq_true,decide_eq_true_eq] at h2
  exact ⟨List.length_eq_zero_iff.1 h2.1,by simpa [X.s] using h2.2⟩
theorem R9 {s : S4} {ks : List X} (h : Rt (.mk 5 s ks)) : ∃ a,ks = [a] ∧ s = S4.zero ∧ Rt a ∧ a.k ≠ 0 ∧ a.k ≠ 1 ∧ a.k ≠ 5 := by
 obtain ⟨h1,h2⟩ := (Yv _).1 h
 rw [Ji] at h2
 split at h2
 ·cases h2
 ·rename_i hs
  have hs : s = S4.zero := Classical.byContradiction fun e => hs ⟨by decide,e⟩
  rw [if_neg (by decide),if_neg (by decide),if_pos rfl,Bool.and_eq_true,decide_eq_true_eq] at h2
  obtain ⟨hl,hc⟩ := h2
  obtain ⟨a,rfl⟩ := List.length_eq_one_iff.1 hl
  have hc := J3 hc
  refine ⟨a,rfl,hs,h1 a (by simp [X.ks]),?_⟩
  cases a with
  | mk k' s' ks' =>
   rw [List.headD_cons,Ua] at hc
   split at hc
   ·injection hc with e; exact absurd e (by decide)
   ·rename_i h01
    split at hc
    ·injection hc with e1 e2 e3
     have := congrArg Qj e3
     simp only [Qj,X.size] at this
     omega
    ·exact ⟨fun e => h01 (.inl e),fun e => h01 (.inr e),by assumption⟩
theorem UE {x : X} (h : Rt x) : x.k = 0 ∨ x.k = 1 ∨ x.k = 2 ∨ x.k = 3 ∨ x.k = 4 ∨ x.k = 5 := by
 cases x with
 | mk k s ks =>
  have h2 := ((Yv _).1 h).2
  rw [Ji] at h2
  show k = 0 ∨ k = 1 ∨ k = 2 ∨ k = 3 ∨ k = 4 ∨ k = 5
  refine Classical.byContradiction fun hc => ?_
  rw [if_neg (show ¬ (k = 0 ∨ k = 1) by omega),if_neg (show ¬ k = 2 by omega),if_neg (show ¬ k = 5 by omega),if_neg (show ¬ k = 3 by omega),if_neg (show ¬ k = 4 by omega)] at h2
  split at h2 <;> cases h2
theorem Qko {s : S4} {ks : List X} (h : Rt (.mk 4 s ks)) : ∃ y ∈ ks,y.k = 2 ∨ y.k = 3 ∨ y.k = 5 := by
 obtain ⟨hl,hb⟩ := X0 h
 have hss := FJ ks
 have hk : ∀ y ∈ ks,Rt y ∧ y.k ≠ 4 ∧ y.k ≠ 0 := fun y hy => by
  obtain ⟨h1,h2⟩ := Dj h rfl y hy
  refine ⟨h1,h2,fun e => ?_⟩
  rw [← hb] at hy
  rcases Ky hy with ⟨h3,_⟩ | ⟨_,h3,_⟩
  ·rw [h3] at e; exact absurd (show (2 : Int) = 0 from e) (by decide)
  ·exact h3 e
 rw [hb] at hss
 match ks,hl,hss,hk with
 | y :: z :: r,_,hss,hk =>
  obtain ⟨r1,a1,a2⟩ := hk y (by simp)
  obtain ⟨r2,b1,b2⟩ := hk z (by simp)
  by_cases h1 : y.k = 1
  ·by_cases h2 : z.k = 1
   ·have e1 := FO r1 (.inl h1)
    have e2 := FO r2 (.inl h2)
    have hlt : lX y z := (List.pairwise_cons.1 hss).1 z (by simp)
    rw [e1,e2,h1,h2] at hlt
    exact absurd hlt (lt_asymm hlt)
   ·have := UE r2
    exact ⟨z,by simp,by omega⟩
  ·have := UE r1
   exact ⟨y,by simp,by omega⟩
theorem Pu : ∀ (n : Nat) (x : X),x.size ≤ n → Rt x → x.k ≠ 0 → x.k ≠ 1 → 1 ≤ (mX x).t 0
 | 0,x,h,_,_,_ => by have := Yg x; omega
 | n + 1,.mk k s ks,h,hr,h0,h1 => by
  have hk := UE hr
  have hsz : Qj ks ≤ n := by simp only [X.size] at h; omega
  simp only [X.k] at h0 h1 hk
  rcases hk with rfl | rfl | rfl | rfl | rfl | rfl
  ·exact absurd rfl h0
  ·exact absurd rfl h1
  ·exact Nat.le_refl 1
  ·have hl := DW hr
   rw [NP]
   match ks,hl,hsz,hr with
   | y :: l,_,hsz,hr =>
    obtain ⟨a,b,c,d⟩ := Bv hr rfl y (by simp [X.ks])
    have := Pu n y (by simp only [Qj] at hsz; omega) a c d
    rw [mC]
    exact Nat.le_trans this (Nat.le_add_right _ _)
  ·obtain ⟨y,hy,hk⟩ := Qko hr
   have := Pu n y (Nat.le_trans (Yl hy) hsz) (Dj hr rfl y hy).1 (by omega) (by omega)
   rw [B7]
   exact Nat.le_trans this (D5.1 (Nat.le_refl _) y hy)
  ·obtain ⟨a,rfl,_⟩ := R9 hr
   exact Nat.le_refl 1
theorem Pv : ∀ (n : Nat) (x : X),x.size ≤ n → Rt x → Zp x = true → 1 ≤ (mX x).v 0
 | 0,x,h,_,_ => by have := Yg x; omega
 | n + 1,.mk k s ks,h,hr,h0 => by
  have hk := UE hr
  have hsz : Qj ks ≤ n := by simp only [X.size] at h; omega
  have hkr := ((Yv _).1 hr).1
  simp only [X.k] at hk
  simp only [X.ks] at hkr
  rw [Zp] at h0
  rcases hk with rfl | rfl | rfl | rfl | rfl | rfl
  ·simp at h0
  ·exact Nat.le_refl 1
  ·simp at h0
  ·rw [if_neg (by decide),if_pos rfl,Qe7,List.all_eq_true] at h0
   rw [NP]
   have key : ∀ l : List X,(∀ y ∈ l,1 ≤ (mX y).v 0) → 1 ≤ (mC l).v 0 := by
    intro l
    induction l with
    | nil => intro _; exact Nat.le_refl 1
    | cons y l ih =>
     intro hl
     exact Nat.mul_le_mul (hl y List.mem_cons_self) (ih fun z hz => hl z (List.mem_cons_of_mem _ hz))
   exact key ks fun y hy => Pv n y (Nat.le_trans (Yl hy) hsz) (hkr y hy) (h0 y hy)
  ·rw [if_neg (by decide),if_neg (by decide),if_pos rfl,QgH,List.any_eq_true] at h0
   obtain ⟨y,hy,hn⟩ := h0
   rw [B7]
   exact Nat.le_trans (Pv n y (Nat.le_trans (Yl hy) hsz) (hkr y hy) hn) (Ai.1 (Nat.le_refl _) y hy)
  ·obtain ⟨a,rfl,_⟩ := R9 hr
   exact Nat.le_refl 1
theorem Ql1 {N : Nat} {A B D E : Me} (hD : Me.le N D (A.sh.cat B)) (ht : 1 ≤ A.t 0) (hE : Me.le N E B.sh) (hv : 1 ≤ A.v 0 ∨ E = Me.zero) : Me.le N (D.or E) (A.cat B).sh := by
 have hm : B.p ≤ B.p * A.t 0 := Nat.le_mul_of_pos_right _ ht
 have hE' : ∀ (f : Me → Nat → Nat),(∀ n,f Me.zero n = 0) → ∀ n,f E n ≤ f B.sh n → f E n ≤ A.v 0 * f B.sh n := fun f hf n h => by
  rcases hv with hv | rfl
  ·exact Nat.le_trans h (Nat.le_mul_of_pos_left _ hv)
  ·rw [hf]; exact Nat.zero_le _
 have hEp : E.p ≤ A.v 0 * B.s 0 := by
  have h := hE.p
  rcases hv with hv | rfl
  ·exact Nat.le_trans h (Nat.le_mul_of_pos_left _ hv)
  ·exact Nat.zero_le _
 refine ⟨?_,fun n hn => ?_,fun n hn => ?_,fun n hn => ?_⟩
 ·have h1 := hD.p
  simp only [Me.or,Me.sh,Me.cat,conv] at h1 ⊢
  omega
 ·have h1 := hD.t n hn
  have h2 := hE' (fun M => M.t) (fun _ => rfl) n (hE.t n hn)
  simp only [Me.or,Me.sh,Me.cat,Vd] at h1 h2 ⊢
  omega
 ·have h1 := hD.s n hn
  have h2 := hE' (fun M => M.s) (fun _ => rfl) n (hE.s n hn)
  simp only [Me.or,Me.sh,Me.cat,Vd] at h1 h2 ⊢
  omega
 ·have h1 := hD.v n hn
  have h2 := hE' (fun M => M.v) (fun _ => rfl) n (hE.v n hn)
  simp only [Me.or,Me.sh,Me.cat,Vd] at h1 h2 ⊢
  omega
theorem EJ {b : Int} {N : Nat} : ∀ {l : List X},(∀ x ∈ l,Rt x ∧ x.k ≠ 0 ∧ x.k ≠ 1 ∧ Me.le N (mX (Qo b x)) (mX x).sh) → Me.le N (mE (Zu b l)) (mC l).sh
 | [],_ => zero_le _ _
 | x :: l,h => by
  obtain ⟨hr,h0,h1,hd⟩ := h x List.mem_cons_self
  have ih := EJ (b := b) (N := N) fun y hy => h y (List.mem_cons_of_mem _ hy)
  have hc := AT (l := Qo b x :: l) (by simp) (fun y hy => by
   rcases List.mem_cons.1 hy with rfl | hy
   ·exact WN b hr
   ·exact (h y (List.mem_cons_of_mem _ hy)).1) N
  rw [mC] at hc
  rw [Zu,mE,mC]
  refine Ql1 (hc.trans (Me.cat_le hd (Me.le.refl _ _))) (Pu _ x (Nat.le_refl _) hr h0 h1) ?_ ?_
  ·split
   ·exact ih
   ·exact zero_le _ _
  ·split
   ·rename_i hn; exact .inl (Pv _ x (Nat.le_refl _) hr hn)
   ·exact .inr rfl
theorem Dm {b : Int} {N : Nat} : ∀ {l : List X},(∀ x ∈ l,Me.le N (mX (Qo b x)) (mX x).sh) → Me.le N (mE (Zf b l)) (mE l).sh
 | [],_ => zero_le _ _
 | x :: l,h => Me.or_le (h x List.mem_cons_self) (Dm fun y hy => h y (List.mem_cons_of_mem _ hy))
theorem BP (b : Int) (N : Nat) : ∀ (n : Nat) (x : X),x.size ≤ n → Rt x → Me.le N (mX (Qo b x)) (mX x).sh
 | 0,x,h,_ => by have := Yg x; omega
 | n + 1,.mk k s ks,h,hr => by
  have hk := UE hr
  have hsz : Qj ks ≤ n := by simp only [X.size] at h; omega
  have hkr := ((Yv _).1 hr).1
  simp only [X.k] at hk
  simp only [X.ks] at hkr
  have hd : ∀ y ∈ ks,Me.le N (mX (Qo b y)) (mX y).sh := fun y hy => BP b N n y (Nat.le_trans (Yl hy) hsz) (hkr y hy)
  rcases hk with rfl | rfl | rfl | rfl | rfl | rfl
  ·exact zero_le _ _
  ·exact zero_le _ _
  ·rw [D8,Qms]
   split
   ·exact ⟨Nat.le_refl 1,fun _ _ => Nat.zero_le _,fun _ _ => Nat.zero_le _,fun n _ => by
     show dl n ≤ if n + 1 = 1 then 1 else 0
     cases n <;> simp [dl]⟩
   ·exact zero_le _ _
  ·rw [Da,NP]
   refine (CV _ N).trans (EJ fun y hy => ?_)
   obtain ⟨a,b,c,d⟩ := Bv hr rfl y hy
   exact ⟨a,c,d,hd y hy⟩
  ·rw [Cu,B7]
   exact (CV _ N).trans (Dm hd)
  ·obtain ⟨a,rfl,hs,ha,_⟩ := R9 hr
   rw [Xd,Pt,Me.star_sh]
   have hc := AT (l := [Qo b a,.mk 5 s [a]]) (by simp) (fun y hy => by
    simp only [List.mem_cons,List.not_mem_nil,or_false] at hy
    rcases hy with rfl | rfl
    ·exact WN b ha
    ·exact hr) N
   rw [mC,mC,mC,Me.cat_e,Pt] at hc
   exact hc.trans (Me.cat_le (hd a (by simp)) (Me.le.refl _ _))
theorem LP : ∀ (n : Nat) (x : X),x.size ≤ n → Rt x → x.k ≠ 0 → x.size + 2 ≤ 3 * (mX x).p
 | 0,x,h,_,_ => by have := Yg x; omega
 | n + 1,.mk k s ks,h,hr,h0 => by
  have hk := UE hr
  have hsz : Qj ks ≤ n := by simp only [X.size] at h; omega
  have hkr := ((Yv _).1 hr).1
  simp only [X.k] at hk h0
  simp only [X.ks] at hkr
  have hd : ∀ y ∈ ks,y.k ≠ 0 → y.size + 2 ≤ 3 * (mX y).p := fun y hy h0 => LP n y (Nat.le_trans (Yl hy) hsz) (hkr y hy) h0
  rcases hk with rfl | rfl | rfl | rfl | rfl | rfl
  ·exact absurd rfl h0
  ·have e := FO hr (.inl rfl)
   injection e with e1 e2 e3
   subst e3
   exact Nat.le_refl 3
  ·have e : ks = [] := (QjL hr rfl).1
   subst e
   exact Nat.le_refl 3
  ·have hl := DW hr
   rw [NP]
   have key : ∀ l : List X,(∀ y ∈ l,y.size + 2 ≤ 3 * (mX y).p) → Qj l + 2 * l.length ≤ 3 * (mC l).p := by
    intro l
    induction l with
    | nil => intro _; exact Nat.zero_le _
    | cons y l ih =>
     intro hl
     have h1 := hl y List.mem_cons_self
     have h2 := ih fun z hz => hl z (List.mem_cons_of_mem _ hz)
     rw [mC]
     simp only [Qj,List.length_cons,Me.cat]
     omega
   have := key ks fun y hy => hd y hy (Bv hr rfl y hy).2.2.1
   simp only [X.size]
   omega
  ·obtain ⟨hl,hb⟩ := X0 hr
   rw [B7]
   have key : ∀ l : List X,(∀ y ∈ l,y.size + 2 ≤ 3 * (mX y).p) → Qj l + 2 * l.length ≤ 3 * (mE l).p := by
    intro l
    induction l with
    | nil => intro _; exact Nat.zero_le _
    | cons y l ih =>
     intro hl
     have h1 := hl y List.mem_cons_self
     have h2 := ih fun z hz => hl z (List.mem_cons_of_mem _ hz)
     rw [mE]
     simp only [Qj,List.length_cons,Me.or]
     omega
   have := key ks fun y hy => hd y hy fun e => by
    rw [← hb] at hy
    rcases Ky hy with ⟨h3,_⟩ | ⟨_,h3,_⟩
    ·rw [h3] at e; exact absurd (show (2 : Int) = 0 from e) (by decide)
    ·exact h3 e
   simp only [X.size]
   omega
  ·obtain ⟨a,rfl,hs,ha,h0,_⟩ := R9 hr
   have := hd a (by simp) h0
   rw [Pt]
   simp only [X.size,Qj,Me.star]
   omega
theorem M2 {x : X} (hr : Rt x) : x.size ≤ 3 * (mX x).p + 1 := by
 by_cases h : x.k = 0
 ·rw [FO hr (.inr h)]
  simp only [X.size,Qj]; omega
 ·have := LP _ x (Nat.le_refl _) hr h
  omega
theorem Qe0 {l : List X} (h : ∀ x ∈ l,Rt x) : Qj l ≤ 3 * (mE l).p + l.length := by
 induction l with
 | nil => exact Nat.zero_le _
 | cons y l ih =>
  have h1 := M2 (h y List.mem_cons_self)
  have h2 := ih fun z hz => h z (List.mem_cons_of_mem _ hz)
  rw [mE]
  simp only [Qj,List.length_cons,Me.or]
  omega
theorem QbW {l : List X} (h : ∀ x ∈ l,Rt x ∧ x.k ≠ 0) : Qj l + 2 * l.length ≤ 3 * (mC l).p := by
 induction l with
 | nil => exact Nat.zero_le _
 | cons y l ih =>
  have h1 := LP _ y (Nat.le_refl _) (h y List.mem_cons_self).1 (h y List.mem_cons_self).2
  have h2 := ih fun z hz => h z (List.mem_cons_of_mem _ hz)
  rw [mC]
  simp only [Qj,List.length_cons,Me.cat]
  omega
theorem Qhs (b : Int) : ∀ l : List X,(Zu b l).length ≤ l.length
 | [] => Nat.le_refl _
 | x :: l => by
  have := Qhs b l
  rw [Zu]
  split <;> simp <;> omega
theorem Bi (b : Int) : ∀ l : List X,(Zf b l).length = l.length
 | [] => rfl
 | x :: l => by rw [Zf,List.length_cons,List.length_cons,Bi b l]
theorem Qd9 {b : Int} : ∀ {l : List X},(∀ x ∈ l,Rt x ∧ x.k ≠ 0 ∧ x.k ≠ 1 ∧ (3 * (mX x).s 0 + 8 * (mX x).p + 10 ≤ LIM → Gd b x)) → 3 * (mC l).s 0 + 8 * (mC l).p + 10 ≤ LIM → GdW b l
 | [],_,_ => trivial
 | x :: l,h,hl => by
  obtain ⟨hr,h0,h1,hg⟩ := h x List.mem_cons_self
  have hm := Pu _ x (Nat.le_refl _) hr h0 h1
  have hm' : (mC l).p ≤ (mC l).p * (mX x).t 0 := Nat.le_mul_of_pos_right _ hm
  rw [mC] at hl
  simp only [Me.cat,conv] at hl
  have hd := (BP b 1 _ x (Nat.le_refl _) hr).p
  have hs := M2 (WN b hr)
  have hls := QbW fun y hy => ⟨(h y (List.mem_cons_of_mem _ hy)).1,(h y (List.mem_cons_of_mem _ hy)).2.1⟩
  simp only [Me.sh] at hd
  rw [GdW]
  refine ⟨hg (by omega),by omega,fun hn => Qd9 (fun y hy => h y (List.mem_cons_of_mem _ hy)) ?_⟩
  have hv := Pv _ x (Nat.le_refl _) hr hn
  have : (mC l).s 0 ≤ (mX x).v 0 * (mC l).s 0 := Nat.le_mul_of_pos_left _ hv
  omega
theorem QdU {b : Int} : ∀ {l : List X},(∀ x ∈ l,(3 * (mX x).s 0 + 8 * (mX x).p + 10 ≤ LIM → Gd b x)) → 3 * (mE l).s 0 + 8 * (mE l).p + 10 ≤ LIM → GdA b l
 | [],_,_ => trivial
 | x :: l,h,hl => by
  rw [mE] at hl
  simp only [Me.or] at hl
  rw [GdA]
  exact ⟨h x List.mem_cons_self (by omega),QdU (fun y hy => h y (List.mem_cons_of_mem _ hy)) (by omega)⟩
theorem QaW (b : Int) : ∀ (n : Nat) (x : X),x.size ≤ n → Rt x → 3 * (mX x).s 0 + 8 * (mX x).p + 10 ≤ LIM → Gd b x
 | 0,x,h,_,_ => by have := Yg x; omega
 | n + 1,.mk k s ks,h,hr,hl => by
  have hk := UE hr
  have hsz : Qj ks ≤ n := by simp only [X.size] at h; omega
  have hkr := ((Yv _).1 hr).1
  simp only [X.k] at hk
  simp only [X.ks] at hkr
  have hd : ∀ y ∈ ks,3 * (mX y).s 0 + 8 * (mX y).p + 10 ≤ LIM → Gd b y := fun y hy => QaW b n y (Nat.le_trans (Yl hy) hsz) (hkr y hy)
  have hlen := Yp ks
  rcases hk with rfl | rfl | rfl | rfl | rfl | rfl
  ·simp [Gd]
  ·simp [Gd]
  ·simp [Gd]
  ·rw [NP] at hl
   have hc := fun y hy => Bv hr rfl y hy
   simp only [X.ks] at hc
   have hw := (EJ (b := b) (N := 1) fun y hy => ⟨(hc y hy).1,(hc y hy).2.2.1,(hc y hy).2.2.2,BP b 1 _ y (Nat.le_refl _) (hc y hy).1⟩).p
   have hz := Qe0 (An b hkr)
   have hwl := Qhs b ks
   have hcs := QbW fun y hy => ⟨(hc y hy).1,(hc y hy).2.2.1⟩
   simp only [Me.sh] at hw
   rw [Gd,if_pos rfl]
   exact ⟨by omega,Qd9 (fun y hy => ⟨(hc y hy).1,(hc y hy).2.2.1,(hc y hy).2.2.2,hd y hy⟩) hl⟩
  ·rw [B7] at hl
   have hw := (Dm (b := b) (N := 1) fun y hy => BP b 1 _ y (Nat.le_refl _) (hkr y hy)).p
   have hz := Qe0 (EX b hkr)
   have hdl := Bi b ks
   have hcs := LP _ _ (Nat.le_refl _) hr (by simp [X.k])
   rw [B7] at hcs
   simp only [X.size] at hcs
   simp only [Me.sh] at hw
   rw [Gd,if_neg (by decide),if_pos rfl]
   exact ⟨by omega,QdU hd hl⟩
  ·obtain ⟨a,rfl,hs,ha,h0,_⟩ := R9 hr
   have hsz1 := M2 hr
   rw [Pt] at hl hsz1
   have hst : (mX a).star.s 0 = (mX a).s 0 + ((mX a).p + 1) := rfl
   have hp : (mX a).star.p = (mX a).p + 1 := rfl
   have hdm := (BP b 1 _ a (Nat.le_refl _) ha).p
   have hds := M2 (WN b ha)
   simp only [Me.sh] at hdm
   rw [Gd,if_neg (by decide),if_neg (by decide),if_pos rfl,GdS]
   exact fun _ => ⟨hd a (by simp) (by omega),by omega⟩
def Fin : Nat → Me → Prop
 | 0,A => 3 * A.p + 1 ≤ LIM
 | m + 1,A => 3 * A.s 0 + 8 * A.p + 10 ≤ LIM ∧ Fin m A.sh
theorem Fin.mono : ∀ {m N : Nat} {A B : Me},m ≤ N → Me.le N A B → Fin m B → Fin m A
 | 0,N,A,B,_,h,hf => by have := h.p; simp only [Fin] at hf ⊢; omega
 | m + 1,0,A,B,hm,h,hf => by omega
 | m + 1,N + 1,A,B,hm,h,hf => by
  have h1 := h.p
  have h2 := h.s 0 (by omega)
  exact ⟨by have := hf.1; omega,Fin.mono (by omega) (Me.sh_le h) hf.2⟩
theorem Fin.size {m : Nat} {x : X} (hr : Rt x) (h : Fin m (mX x)) : x.size ≤ LIM := by
 have := M2 hr
 cases m with
 | zero => simp only [Fin] at h; omega
 | succ m => have := h.1; omega
theorem Fin.deriv {m : Nat} {x : X} (hr : Rt x) (h : Fin (m + 1) (mX x)) (b : Int) : Gd b x ∧ Rt (Qo b x) ∧ Fin m (mX (Qo b x)) :=
 ⟨QaW b _ x (Nat.le_refl _) hr h.1,WN b hr,Fin.mono (Nat.le_refl m) (BP b m _ x (Nat.le_refl _) hr) h.2⟩
theorem Fin.less : ∀ {m : Nat} {A : Me},Fin (m + 1) A → Fin m A
 | 0,A,h => by have := h.1; simp only [Fin]; omega
 | m + 1,A,h => ⟨h.1,Fin.less h.2⟩
end Go.X7
end
section
namespace Go.X7
open Go Go.Ev Go.Srt
def Me.sup (A B : Me) : Me := ⟨max A.p B.p,fun n => max (A.t n) (B.t n),fun n => max (A.s n) (B.s n),fun n => max (A.v n) (B.v n)⟩
theorem Me.le_sup_left (N : Nat) (A B : Me) : Me.le N A (A.sup B) := ⟨Nat.le_max_left _ _,fun _ _ => Nat.le_max_left _ _,fun _ _ => Nat.le_max_left _ _,fun _ _ => Nat.le_max_left _ _⟩
theorem Me.le_sup_right (N : Nat) (A B : Me) : Me.le N B (A.sup B) := ⟨Nat.le_max_right _ _,fun _ _ => Nat.le_max_right _ _,fun _ _ => Nat.le_max_right _ _,fun _ _ => Nat.le_max_right _ _⟩
def LY (p : Nat) (t s v : List Nat) : Me := ⟨p,fun n => t.getD n 0,fun n => s.getD n 0,fun n => v.getD n 0⟩
theorem le7 {A B : Me} (h : A.p ≤ B.p ∧ ∀ n,n < 7 → A.t n ≤ B.t n ∧ A.s n ≤ B.s n ∧ A.v n ≤ B.v n) : Me.le 7 A B := ⟨h.1,fun n hn => (h.2 n hn).1,fun n hn => (h.2 n hn).2.1,fun n hn => (h.2 n hn).2.2⟩
def NT : Me := LY 3 [1,1,1,1,1,1,1] [3,3,3,3,3,3,3] [1,1,1,1,1,1,1]
def QpF : Me := LY 9 [3,6,10,15,21,32,64] [18,30,45,63,112,224,448] [1,3,6,10,15,21,32]
def Qll : Me := LY 27 [9,45,165,495,1287,4890,23728] [135,495,1485,4042,19618,95198,461885] [1,9,45,165,495,1716,8322]
def CK : Me := LY 81 [27,378,3654,27405,169911,1704888,23035546] [1134,10962,82215,571729,7723240,104345951,1410013161] [1,27,378,3654,27405,310515,4196301]
theorem Me.sup_le {N : Nat} {A B C : Me} (h : Me.le N A C) (g : Me.le N B C) : Me.le N (A.sup B) C := ⟨Nat.max_le.2 ⟨h.p,g.p⟩,fun n hn => Nat.max_le.2 ⟨h.t n hn,g.t n hn⟩,fun n hn => Nat.max_le.2 ⟨h.s n hn,g.s n hn⟩,fun n hn => Nat.max_le.2 ⟨h.v n hn,g.v n hn⟩⟩
def U7 : Nat → Me
 | 0 => NT
 | d + 1 => (U7 d).star.sup (((U7 d).cat ((U7 d).cat (U7 d))).sup ((U7 d).or ((U7 d).or (U7 d))))
theorem QcA (d N : Nat) : Me.le N ((U7 d).or ((U7 d).or (U7 d))) (U7 (d + 1)) := (Me.le_sup_right N _ _).trans (Me.le_sup_right N _ _)
theorem Qn4 (d N : Nat) : Me.le N ((U7 d).cat ((U7 d).cat (U7 d))) (U7 (d + 1)) := (Me.le_sup_left N _ _).trans (Me.le_sup_right N _ _)
theorem QlP (d N : Nat) : Me.le N (U7 d).star (U7 (d + 1)) := Me.le_sup_left N _ _
theorem CE (d N : Nat) : Me.le N (U7 d) (U7 (d + 1)) := (Me.le_or_left N _ _).trans (QcA d N)
theorem D9 : ∀ d,Me.le 7 Me.emp (U7 d)
 | 0 => le7 (by decide +kernel)
 | d + 1 => (D9 d).trans (CE d 7)
theorem QhJ : ∀ d,Me.le 7 Me.byte (U7 d)
 | 0 => le7 (by decide +kernel)
 | d + 1 => (QhJ d).trans (CE d 7)
theorem u_e (d : Nat) : Me.le 7 Me.e (U7 d) := (QbJ 7).trans (D9 d)
def BU : Nat → X → Prop
 | 0,x => mX x = Me.byte ∨ mX x = Me.emp ∨ mX x = Me.zero
 | d + 1,x => Me.le 7 (mX x) (U7 d)
theorem BU.emp : ∀ {d : Nat} {x : X},mX x = Me.emp → BU d x
 | 0,x,h => .inr (.inl h)
 | d + 1,x,h => by show Me.le 7 (mX x) (U7 d); rw [h]; exact D9 d
theorem BU.byte : ∀ {d : Nat} {x : X},mX x = Me.byte → BU d x
 | 0,x,h => .inl h
 | d + 1,x,h => by show Me.le 7 (mX x) (U7 d); rw [h]; exact QhJ d
theorem BU.zero : ∀ {d : Nat} {x : X},mX x = Me.zero → BU d x
 | 0,x,h => .inr (.inr h)
 | d + 1,x,h => by show Me.le 7 (mX x) (U7 d); rw [h]; exact zero_le _ _
theorem QqV : ∀ {d : Nat} {x : X},Rt x → BU d x → BU (d + 1) (Jh x)
 | d,.mk k s ks,hr,h => by
  rw [Ua]
  split
  ·exact BU.emp rfl
  ·split
   ·rename_i h01 h5
    match d,h with
    | 0,h =>
     rcases h with h | h | h
     ·exact BU.byte h
     ·exact BU.emp h
     ·exact BU.zero h
    | d + 1,h => exact Me.le.trans h (CE d 7)
   ·match d,h with
    | 0,h =>
     show Me.le 7 (mX (.mk k s ks)).star NT
     rcases h with h | h | h <;> rw [h] <;> exact le7 (by decide +kernel)
    | d + 1,h => exact (Me.star_le h).trans (QlP d 7)
theorem Qlp : ∀ {d : Nat} {l : List X},l ≠ [] → l.length ≤ 3 → (∀ x ∈ l,Rt x ∧ BU d x) → BU (d + 1) (Q8 l) := fun {d l} hn hl h => by
 refine (AT hn (fun x hx => (h x hx).1) 7).trans ?_
 match d,h with
 | 0,h =>
  show Me.le 7 (mC l) NT
  match l,hn,hl,h with
  | [a],_,_,h =>
   have h1 := (h a (by simp)).2
   simp only [BU] at h1
   simp only [mC]
   rcases h1 with e1 | e1 | e1 <;> rw [e1] <;> exact le7 (by decide +kernel)
  | [a,b],_,_,h =>
   have h1 := (h a (by simp)).2
   have h2 := (h b (by simp)).2
   simp only [BU] at h1 h2
   simp only [mC]
   rcases h1 with e1 | e1 | e1 <;> rw [e1] <;> rcases h2 with e2 | e2 | e2 <;> rw [e2] <;> exact le7 (by decide +kernel)
  | [a,b,c],_,_,h =>
   have h1 := (h a (by simp)).2
   have h2 := (h b (by simp)).2
   have h3 := (h c (by simp)).2
   simp only [BU] at h1 h2 h3
   simp only [mC]
   rcases h1 with e1 | e1 | e1 <;> rw [e1] <;> rcases h2 with e2 | e2 | e2 <;> rw [e2] <;> rcases h3 with e3 | e3 | e3 <;> rw [e3] <;> exact le7 (by decide +kernel)
 | d + 1,h =>
  refine Me.le.trans ?_ (Qn4 d 7)
  match l,hn,hl,h with
  | [a],_,_,h =>
   have := Me.cat_le (h a (by simp)).2 (Me.cat_le (u_e d) (u_e d))
   rw [Me.cat_e] at this
   exact this
  | [a,b],_,_,h => exact Me.cat_le (h a (by simp)).2 (Me.cat_le (h b (by simp)).2 (u_e d))
  | [a,b,c],_,_,h =>
   refine Me.cat_le (h a (by simp)).2 (Me.cat_le (h b (by simp)).2 ?_)
   rw [mC,mC,Me.cat_e]
   exact (h c (by simp)).2
theorem Qmk : ∀ {d : Nat} {l : List X},l.length ≤ 3 → (∀ x ∈ l,BU d x) → BU (d + 1) (Zd l) := fun {d l} hl h => by
 refine (CV l 7).trans ?_
 match d,h with
 | 0,h =>
  show Me.le 7 (mE l) NT
  match l,hl,h with
  | [],_,_ => exact zero_le _ _
  | [a],_,h =>
   have h1 := h a (by simp)
   simp only [BU] at h1
   simp only [mE]
   rcases h1 with e1 | e1 | e1 <;> rw [e1] <;> exact le7 (by decide +kernel)
  | [a,b],_,h =>
   have h1 := h a (by simp)
   have h2 := h b (by simp)
   simp only [BU] at h1 h2
   simp only [mE]
   rcases h1 with e1 | e1 | e1 <;> rw [e1] <;> rcases h2 with e2 | e2 | e2 <;> rw [e2] <;> exact le7 (by decide +kernel)
  | [a,b,c],_,h =>
   have h1 := h a (by simp)
   have h2 := h b (by simp)
   have h3 := h c (by simp)
   simp only [BU] at h1 h2 h3
   simp only [mE]
   rcases h1 with e1 | e1 | e1 <;> rw [e1] <;> rcases h2 with e2 | e2 | e2 <;> rw [e2] <;> rcases h3 with e3 | e3 | e3 <;> rw [e3] <;> exact le7 (by decide +kernel)
 | d + 1,h =>
  refine Me.le.trans ?_ (QcA d 7)
  match l,hl,h with
  | [],_,_ => exact zero_le _ _
  | [a],_,h => exact Me.or_le (h a (by simp)) (zero_le _ _)
  | [a,b],_,h => exact Me.or_le (h a (by simp)) (Me.or_le (h b (by simp)) (zero_le _ _))
  | [a,b,c],_,h =>
   refine Me.or_le (h a (by simp)) (Me.or_le (h b (by simp)) ?_)
   rw [mE,mE,Me.or_zero]
   exact h c (by simp)
theorem Dr {d N : Nat} {T T' : Me} (h : Me.le N (U7 d) T) (a : Me.le N T.star T') (b : Me.le N (T.cat (T.cat T)) T') (c : Me.le N (T.or (T.or T)) T') : Me.le N (U7 (d + 1)) T' :=
 Me.sup_le ((Me.star_le h).trans a) (Me.sup_le ((Me.cat_le h (Me.cat_le h h)).trans b) ((Me.or_le h (Me.or_le h h)).trans c))
theorem u_0 : Me.le 7 (U7 0) NT := Me.le.refl _ _
theorem u_1 : Me.le 7 (U7 1) QpF := Dr u_0 (le7 (by decide +kernel)) (le7 (by decide +kernel)) (le7 (by decide +kernel))
theorem u_2 : Me.le 7 (U7 2) Qll := Dr u_1 (le7 (by decide +kernel)) (le7 (by decide +kernel)) (le7 (by decide +kernel))
theorem u_3 : Me.le 7 (U7 3) CK := Dr u_2 (le7 (by decide +kernel)) (le7 (by decide +kernel)) (le7 (by decide +kernel))
instance decFin : ∀ (m : Nat) (A : Me),Decidable (Fin m A)
 | 0,A => inferInstanceAs (Decidable (3 * A.p + 1 ≤ LIM))
 | m + 1,A => @instDecidableAnd _ _ _ (decFin m A.sh)
theorem Qlz : Fin 6 CK := by decide +kernel
theorem QhY {x : X} (h : BU 4 x) : Me.le 7 (mX x) CK := Me.le.trans h u_3
end Go.X7
end
