/- Xb: a part of the proof that each law of this seat answers true at every input. No condition. -/
import Derived.Test.YtdnmpaielmfiiaaDoorXa
set_option linter.unusedVariables false
set_option linter.unusedSimpArgs false
set_option maxRecDepth 20000
section
namespace Go.X7
open Go Go.Ev Go.Srt
mutual
theorem J4 : ∀ {x y : X},sameX x y = true → x = y
 | .mk k s ks,.mk k' s' ks',h => by
  simp only [sameX,Bool.and_eq_true,decide_eq_true_eq] at h
  obtain ⟨⟨rfl,rfl⟩,h3⟩ := h
  rw [Qf8 h3]
theorem Qf8 : ∀ {l m : List X},Jg l m = true → l = m
 | [],[],_ => rfl
 | [],_ :: _,h => by simp [Jg] at h
 | _ :: _,[],h => by simp [Jg] at h
 | x :: l,y :: m,h => by
  simp only [Jg,Bool.and_eq_true] at h
  rw [J4 h.1,Qf8 h.2]
end
abbrev Rt (x : X) : Prop := K9 x = true
theorem Qm7 {l : List X} : Wv l = true ↔ ∀ x ∈ l,Rt x := by rw [QnP,List.all_eq_true]
theorem Ys (x : X) : Rt x ↔ (∀ y ∈ x.ks,Rt y) ∧ U4 x = true := by
 cases x with
 | mk k s ks =>
  show (Wv ks && U4 (.mk k s ks)) = true ↔ _
  rw [Bool.and_eq_true,Qm7]
  exact Iff.rfl
theorem CW {k : Int} {l : List X} (h : ∀ x ∈ l,x.k ≠ k) : flatK k l = l := by
 induction l with
 | nil => rfl
 | cons x l ih =>
  have e := ih fun y hy => h y (List.mem_cons_of_mem _ hy)
  unfold flatK at e ⊢
  rw [List.flatMap_cons,if_neg (h x List.mem_cons_self),e]
  rfl
theorem QjI (k : Int) (l m : List X) : flatK k (l ++ m) = flatK k l ++ flatK k m := by
 unfold flatK
 rw [List.flatMap_append]
theorem QcA {k : Int} {l : List X} {x : X} (hx : x ∈ l) (hk : x.k = k) : Qk (flatK k l) < Qk l := by
 obtain ⟨a,b,rfl⟩ := List.append_of_mem hx
 have e1 : flatK k (a ++ x :: b) = flatK k a ++ (x.ks ++ flatK k b) := by
  rw [QjI]
  congr 1
  unfold flatK
  rw [List.flatMap_cons,if_pos hk]
 have h1 := Uy (k := k) a
 have h2 := Uy (k := k) b
 have h3 := size_eq x
 rw [e1]
 simp only [M5,Qk]
 omega
theorem QbG {k : Int} {l : List X} {z : X} (h : z ∈ flatK k l) : (z ∈ l ∧ z.k ≠ k) ∨ ∃ y ∈ l,y.k = k ∧ z ∈ y.ks := by
 obtain ⟨y,hy,hz⟩ := List.mem_flatMap.1 h
 split at hz
 ·rename_i e
  exact .inr ⟨y,hy,e,hz⟩
 ·rename_i e
  obtain rfl := List.mem_singleton.1 hz
  exact .inl ⟨hy,e⟩
theorem ED {x : X} {ks : List X} {k : Int} {s : S4} (h : x ∈ flatK k ks) : x ≠ .mk k s ks := fun e => by
 have h1 := Yv h
 have h2 := Uy (k := k) ks
 rw [e] at h1
 simp only [X.size] at h1
 omega
def JI (l : List X) : List X := (flatK 3 l).filter fun x => !decide (x.k = 1)
theorem Fy (l : List X) : Q8 l = if (flatK 3 l).any (fun x => decide (x.k = 0)) then .mk 0 S4.zero [] else ofL (JI l) 3 1 := rfl
theorem Qjr {l : List X} (h : 1 < l.length) (k n : Int) : ofL l k n = .mk k S4.zero l := by
 match l,h with
 | x :: y :: l,_ => rfl
theorem Rp {x : X} (h : Rt x) (h3 : x.k = 3) : ∀ y ∈ x.ks,Rt y ∧ y.k ≠ 3 ∧ y.k ≠ 0 ∧ y.k ≠ 1 := by
 obtain ⟨k,s,ks⟩ := x
 obtain rfl : k = 3 := h3
 obtain ⟨h1,h2⟩ := (Ys _).1 h
 rw [Jo] at h2
 split at h2
 ·cases h2
 ·rename_i hs
  have hs : s = S4.zero := Classical.byContradiction fun e => hs ⟨by decide,e⟩
  subst hs
  rw [if_neg (by decide),if_neg (by decide),if_neg (by decide),if_pos rfl,Bool.and_eq_true,decide_eq_true_eq] at h2
  obtain ⟨hl,hc⟩ := h2
  have hc := J4 hc
  rw [Fy] at hc
  split at hc
  ·injection hc with e; exact absurd e (by decide)
  ·rename_i hany
   have hF : JI ks = ks := by
    have key : ∀ F : List X,F = JI ks → ofL F 3 1 = .mk 3 S4.zero ks → F = ks := fun F hF e => by
     match F,hF,e with
     | [],_,e => injection e with e
     | [z],hF,e =>
      have hz : z ∈ JI ks := by rw [← hF]; simp
      exact absurd e (ED (List.mem_filter.1 hz).1)
     | z :: w :: F,_,e => injection e
    exact key _ rfl hc
   have hno : ∀ y ∈ ks,y.k ≠ 3 := fun y hy hk => by
    have a1 := QcA hy hk
    have a2 := Rn (fun x => !decide (x.k = 1)) (flatK 3 ks)
    have a3 : Qk ((flatK 3 ks).filter fun x => !decide (x.k = 1)) = Qk ks := by rw [show ((flatK 3 ks).filter fun x => !decide (x.k = 1)) = ks from hF]
    omega
   intro y hy
   refine ⟨h1 y hy,hno y hy,fun h0 => hany ?_,fun h0 => ?_⟩
   ·rw [CW hno]
    exact List.any_eq_true.2 ⟨y,hy,by simp [h0]⟩
   ·have hy' : y ∈ JI ks := by rw [hF]; exact hy
    have := (List.mem_filter.1 hy').2
    simp [h0] at this
theorem QiU {l : List X} (h : ∀ x ∈ l,Rt x) {z : X} (hz : z ∈ flatK 3 l) : Rt z ∧ z.k ≠ 3 := by
 rcases QbG hz with ⟨h1,h2⟩ | ⟨y,hy,hk,hz⟩
 ·exact ⟨h z h1,h2⟩
 ·have := Rp (h y hy) hk z hz
  exact ⟨this.1,this.2.1⟩
theorem UQ : Rt (.mk 0 S4.zero []) := by
 rw [Ys]
 exact ⟨fun y hy => by simp [X.ks] at hy,by rw [Jo,if_neg (by simp),if_pos (by simp)]; rfl⟩
theorem LF : Rt (.mk 1 S4.zero []) := by
 rw [Ys]
 exact ⟨fun y hy => by simp [X.ks] at hy,by rw [Jo,if_neg (by simp),if_pos (by simp)]; rfl⟩
theorem TT {s : S4} (hs : s ≠ S4.zero) : Rt (.mk 2 s []) := by
 rw [Ys]
 refine ⟨fun y hy => by simp [X.ks] at hy,?_⟩
 rw [Jo,if_neg (by simp),if_neg (by decide),if_pos rfl]
 simp [hs]
theorem Aq {l : List X} (h : ∀ x ∈ l,Rt x) : Rt (Q8 l) := by
 rw [Fy]
 split
 ·exact UQ
 ·rename_i hany
  have hm : ∀ z ∈ JI l,Rt z ∧ z.k ≠ 3 ∧ z.k ≠ 0 ∧ z.k ≠ 1 := fun z hz => by
   obtain ⟨a,b⟩ := List.mem_filter.1 hz
   obtain ⟨c,d⟩ := QiU h a
   refine ⟨c,d,fun e => hany (List.any_eq_true.2 ⟨z,a,by simp [e]⟩),by simpa using b⟩
  generalize JI l = F at hm
  match F,hm with
  | [],_ => exact LF
  | [z],hm => exact (hm z (by simp)).1
  | z :: w :: F,hm =>
   show Rt (.mk 3 S4.zero (z :: w :: F))
   rw [Ys]
   refine ⟨fun y hy => (hm y hy).1,?_⟩
   rw [Jo,if_neg (by simp),if_neg (by decide),if_neg (by decide),if_neg (by decide),if_pos rfl]
   have e : Q8 (z :: w :: F) = .mk 3 S4.zero (z :: w :: F) := by
    rw [Fy,JI,CW fun y hy => (hm y hy).2.1,if_neg,List.filter_eq_self.2 fun y hy => by simp [(hm y hy).2.2.2]]
    ·rfl
    ·intro hc
     obtain ⟨y,hy,h0⟩ := List.any_eq_true.1 hc
     exact (hm y hy).2.2.1 (of_decide_eq_true h0)
   rw [e,Rl]
   simp
def ZC (l : List X) : List X := (Zy (flatK 4 l)).foldl (fun a r => Q3 r a) (Zp (Zh (flatK 4 l)))
theorem M0 (l : List X) : Ze l = ofL (ZC l) 4 0 := rfl
theorem PD (l : List X) : SS (ZC l) := (LQ _ (Xg _)).1
theorem Qg3 (l : List X) (t : K) : Ft t (ZC l) = (Ft t (Zp (Zh (flatK 4 l)) ++ Zy (flatK 4 l))).take 1 := (LQ _ (Xg _)).2 t
theorem X4 {s : S4} {z : X} (h : z ∈ Zp s) : z = .mk 2 s [] ∧ s ≠ S4.zero := by
 unfold Zp at h
 split at h
 ·simp at h
 ·rename_i e
  exact ⟨List.mem_singleton.1 h,e⟩
theorem QeH {m : List X} {z : X} (h : z ∈ Zy m) : z ∈ m ∧ z.k ≠ 0 ∧ z.k ≠ 2 := by
 obtain ⟨a,b⟩ := List.mem_filter.1 h
 simp only [Bool.and_eq_true,Bool.not_eq_true',decide_eq_false_iff_not] at b
 exact ⟨a,b.1,b.2⟩
theorem Kl {l : List X} {z : X} (h : z ∈ ZC l) : (z = .mk 2 (Zh (flatK 4 l)) [] ∧ Zh (flatK 4 l) ≠ S4.zero) ∨ (z ∈ flatK 4 l ∧ z.k ≠ 0 ∧ z.k ≠ 2) := by
 rcases Cr _ _ z h with h | h
 ·exact .inl (X4 h)
 ·exact .inr (QeH h)
theorem QhT {p : X → Bool} {l : List X} {x : X} (hx : x ∈ l) (hp : p x = false) : Qk (l.filter p) < Qk l := by
 obtain ⟨a,b,rfl⟩ := List.append_of_mem hx
 rw [List.filter_append,List.filter_cons,if_neg (by simp [hp])]
 have h1 := Rn p a
 have h2 := Rn p b
 have h3 := Yl x
 simp only [M5,Qk]
 omega
theorem Qnt (l : List X) : Qk (ZC l) ≤ Qk (flatK 4 l) := by
 have h2 := CC (Zy (flatK 4 l)) (Zp (Zh (flatK 4 l)))
 have h3 := Rn (fun x => !decide (x.k = 0) && !decide (x.k = 2)) (flatK 4 l)
 have h4 : Qk (Zp (Zh (flatK 4 l))) + Qk (Zy (flatK 4 l)) ≤ Qk (flatK 4 l) := by
  by_cases hz : Zh (flatK 4 l) = S4.zero
  ·rw [Zp,if_pos hz]
   simp only [Qk]
   unfold Zy
   omega
  ·rw [Zp,if_neg hz]
   have : ∃ x ∈ flatK 4 l,x.k = 2 := Classical.byContradiction fun hc => hz (BJ _ fun x hx h2 => hc ⟨x,hx,h2⟩)
   obtain ⟨x,hx,hk⟩ := this
   have := QhT (p := fun x => !decide (x.k = 0) && !decide (x.k = 2)) hx (by simp [hk])
   simp only [Qk,X.size]
   unfold Zy
   omega
 unfold ZC
 omega
theorem AD {x : X} (h : Rt x) (h4 : x.k = 4) : ∀ y ∈ x.ks,Rt y ∧ y.k ≠ 4 := by
 obtain ⟨k,s,ks⟩ := x
 obtain rfl : k = 4 := h4
 obtain ⟨h1,h2⟩ := (Ys _).1 h
 rw [Jo] at h2
 split at h2
 ·cases h2
 ·rename_i hs
  have hs : s = S4.zero := Classical.byContradiction fun e => hs ⟨by decide,e⟩
  subst hs
  rw [if_neg (by decide),if_neg (by decide),if_neg (by decide),if_neg (by decide),if_pos rfl,Bool.and_eq_true,decide_eq_true_eq] at h2
  obtain ⟨hl,hc⟩ := h2
  have hc := J4 hc
  rw [M0] at hc
  have hF : ZC ks = ks := by
   have key : ∀ F : List X,F = ZC ks → ofL F 4 0 = .mk 4 S4.zero ks → F = ks := fun F hF e => by
    match F,hF,e with
    | [],_,e => injection e with e
    | [z],hF,e =>
     have e : z = .mk 4 S4.zero ks := e
     have hz : z ∈ ZC ks := by rw [← hF]; simp
     rcases Kl hz with ⟨a,_⟩ | ⟨a,_⟩
     ·rw [e] at a
      injection a with a
      exact absurd a (by decide)
     ·exact absurd e (ED a)
    | z :: w :: F,_,e => injection e
   exact key _ rfl hc
  intro y hy
  refine ⟨h1 y hy,fun hk => ?_⟩
  have a1 : Qk (flatK 4 ks) < Qk ks := QcA hy hk
  have a2 := Qnt ks
  rw [hF] at a2
  omega
theorem QdP {l : List X} (h : ∀ x ∈ l,Rt x) {z : X} (hz : z ∈ flatK 4 l) : Rt z ∧ z.k ≠ 4 := by
 rcases QbG hz with ⟨h1,h2⟩ | ⟨y,hy,hk,hz⟩
 ·exact ⟨h z h1,h2⟩
 ·exact AD (h y hy) hk z hz
theorem S4.join_self (s : S4) : s.join s = s := by
 cases s
 simp [S4.join]
theorem S4.zero_join (s : S4) : S4.zero.join s = s := by
 cases s
 simp [S4.join,S4.zero]
theorem QeC {s : S4} : ∀ {l : List X} {a : S4},(∀ x ∈ l,x.k = 2 → x.s = s) → (a = s ∨ (a = S4.zero ∧ ∃ x ∈ l,x.k = 2)) → Yn a l = s
 | [],a,_,h => by
  rcases h with rfl | ⟨_,x,hx,_⟩
  ·rfl
  ·simp at hx
 | x :: l,a,hs,h => by
  show Yn (if x.k = 2 then a.join x.s else a) l = s
  refine QeC (fun y hy => hs y (List.mem_cons_of_mem _ hy)) ?_
  by_cases hk : x.k = 2
  ·rw [if_pos hk,hs x List.mem_cons_self hk]
   rcases h with rfl | ⟨rfl,_⟩
   ·exact .inl (S4.join_self _)
   ·exact .inl (S4.zero_join _)
  ·rw [if_neg hk]
   rcases h with h | ⟨h,y,hy,h2⟩
   ·exact .inl h
   ·rcases List.mem_cons.1 hy with rfl | hy
    ·exact absurd h2 hk
    ·exact .inr ⟨h,y,hy,h2⟩
theorem A8 {t : K} {l : List X} {z : X} : z ∈ Ft t l ↔ z ∈ l ∧ txt z = t := by simp
theorem QaC (l : List X) (h : Zh (flatK 4 l) ≠ S4.zero) : .mk 2 (Zh (flatK 4 l)) [] ∈ ZC l := by
 have e := Qg3 l (txt (.mk 2 (Zh (flatK 4 l)) []))
 have hb : Zp (Zh (flatK 4 l)) = [.mk 2 (Zh (flatK 4 l)) []] := by rw [Zp,if_neg h]
 rw [hb,List.cons_append,List.nil_append,Ji,Jt,if_pos rfl,List.cons_append,List.take_succ_cons] at e
 have : X.mk 2 (Zh (flatK 4 l)) [] ∈ Ft (txt (.mk 2 (Zh (flatK 4 l)) [])) (ZC l) := by rw [e]; simp
 exact (A8.1 this).1
theorem Qpj (l : List X) : Zh (ZC l) = Zh (flatK 4 l) := by
 have hs : ∀ x ∈ ZC l,x.k = 2 → x.s = Zh (flatK 4 l) := fun x hx hk => by
  rcases Kl hx with ⟨rfl,_⟩ | ⟨_,_,h⟩
  ·rfl
  ·exact absurd hk h
 by_cases hz : Zh (flatK 4 l) = S4.zero
 ·rw [hz]
  refine BJ _ fun x hx hk => ?_
  rcases Kl hx with ⟨_,h⟩ | ⟨_,_,h⟩
  ·exact h hz
  ·exact h hk
 ·exact QeC hs (.inr ⟨rfl,_,QaC l hz,rfl⟩)
theorem Qk2 {l : List X} (h : ∀ z ∈ flatK 4 l,z.k ≠ 4) : flatK 4 (ZC l) = ZC l := CW fun z hz => by
 rcases Kl hz with ⟨rfl,_⟩ | ⟨a,_⟩
 ·show (2 : Int) ≠ 4
  decide
 ·exact h z a
theorem Qlt {l : List X} (h : ∀ z ∈ flatK 4 l,z.k ≠ 4) : ZC (ZC l) = ZC l := by
 refine SS.uniq (PD _) (PD _) fun t => ?_
 rw [Qg3,Qk2 h,Qpj]
 have hlen := SS.ft (PD l) t
 have hb : ∀ z,z ∈ Zp (Zh (flatK 4 l)) → z ∈ ZC l := fun z hz => by
  obtain ⟨rfl,h2⟩ := X4 hz
  exact QaC l h2
 have hsub : ∀ z,z ∈ Ft t (Zp (Zh (flatK 4 l)) ++ Zy (ZC l)) ↔ z ∈ Ft t (ZC l) := fun z => by
  rw [A8,A8,List.mem_append]
  constructor
  ·rintro ⟨h1 | h1,h2⟩
   ·exact ⟨hb z h1,h2⟩
   ·exact ⟨(QeH h1).1,h2⟩
  ·rintro ⟨h1,h2⟩
   refine ⟨?_,h2⟩
   rcases Kl h1 with ⟨rfl,h3⟩ | ⟨_,h3,h4⟩
   ·left
    rw [Zp,if_neg h3]; simp
   ·right
    exact List.mem_filter.2 ⟨h1,by simp [h3,h4]⟩
 generalize hA : Ft t (Zp (Zh (flatK 4 l)) ++ Zy (ZC l)) = A at hsub
 generalize hB : Ft t (ZC l) = B at hsub hlen
 match B,hlen with
 | [],_ =>
  have : A = [] := List.eq_nil_iff_forall_not_mem.2 fun z hz => by simpa using (hsub z).1 hz
  rw [this]; rfl
 | [b],_ =>
  match A with
  | [] => have := (hsub b).2 (by simp); simp at this
  | a :: A =>
   have := (hsub a).1 (by simp)
   simp at this
   rw [this]; rfl
theorem CN {l : List X} (h : ∀ x ∈ l,Rt x) : Rt (Ze l) := by
 rw [M0]
 have hi := Qlt fun z hz => (QdP h hz).2
 have hm : ∀ z ∈ ZC l,Rt z := fun z hz => by
  rcases Kl hz with ⟨rfl,h2⟩ | ⟨a,_⟩
  ·exact TT h2
  ·exact (QdP h a).1
 generalize ZC l = F at hi hm
 match F,hm,hi with
 | [],_,_ => exact UQ
 | [z],hm,_ => exact hm z (by simp)
 | z :: w :: F,hm,hi =>
  show Rt (.mk 4 S4.zero (z :: w :: F))
  rw [Ys]
  refine ⟨hm,?_⟩
  rw [Jo,if_neg (by simp),if_neg (by decide),if_neg (by decide),if_neg (by decide),if_neg (by decide),if_pos rfl,M0,hi,Qjr (by simp),Rl]
  simp
theorem QmQ {x : X} (h : Rt x) : Rt (Jh x) := by
 cases x with
 | mk k s ks =>
  rw [UH]
  split
  ·exact LF
  ·rename_i h01
   split
   ·exact h
   ·rename_i h5
    rw [Ys]
    refine ⟨fun y hy => ?_,?_⟩
    ·obtain rfl := List.mem_singleton.1 hy
     exact h
    ·rw [Jo,if_neg (by simp),if_neg (by decide),if_neg (by decide),if_pos rfl,List.headD_cons,UH,if_neg h01,if_neg h5,Rl]
     rfl
theorem QsL : ∀ (l : List X) (s : S4) (i : Nat),(Yn s l).has i = (s.has i || l.any fun x => decide (x.k = 2) && x.s.has i)
 | [],s,i => by simp [Yn]
 | x :: l,s,i => by
  show (Yn (if x.k = 2 then s.join x.s else s) l).has i = _
  rw [QsL l,List.any_cons]
  by_cases h : x.k = 2
  ·rw [if_pos h,S4.join_has]
   simp [h,Bool.or_assoc]
  ·simp [h]
theorem Qtv (l : List X) (t : K) : t ∈ (ZC l).map txt ↔ t ∈ (Zp (Zh (flatK 4 l)) ++ Zy (flatK 4 l)).map txt := by
 have e := Qg3 l t
 have key : ∀ m : List X,t ∈ m.map txt ↔ Ft t m ≠ [] := fun m => by
  rw [List.mem_map]
  constructor
  ·rintro ⟨x,hx,rfl⟩ hn
   have := (List.filter_eq_nil_iff.1 hn) x hx
   simp at this
  ·intro hn
   obtain ⟨x,hx⟩ := List.exists_mem_of_ne_nil _ hn
   exact ⟨x,(A8.1 hx).1,(A8.1 hx).2⟩
 rw [key,key,e]
 cases Ft t (Zp (Zh (flatK 4 l)) ++ Zy (flatK 4 l)) <;> simp
def il (e : X) (l : List X) : List X := l.flatMap fun x => [e,x]
abbrev x0 : X := .mk 0 S4.zero []
abbrev x1 : X := .mk 1 S4.zero []
def S4.hasB (s : S4) (b : Int) : Bool := decide (0 ≤ b) && decide (b < 256) && s.has b.toNat
mutual
def Zs : X → Bool
 | .mk k s ks => if k = 1 ∨ k = 5 then true else if k = 3 then W9 ks else if k = 4 then UE ks else false
def W9 : List X → Bool
 | [] => true
 | x :: l => Zs x && W9 l
def UE : List X → Bool
 | [] => false
 | x :: l => Zs x || UE l
end
mutual
def Qo (b : Int) : X → X
 | .mk k s ks => if k = 2 then (if s.hasB b = true then x1 else x0) else if k = 3 then Ze (Zu b ks) else if k = 4 then Ze (Zf b ks) else if k = 5 then JU b (.mk k s ks) ks else x0
def Zu (b : Int) : List X → List X
 | [] => []
 | x :: l => Q8 (Qo b x :: l) :: (if Zs x = true then Zu b l else [])
def Zf (b : Int) : List X → List X
 | [] => []
 | x :: l => Qo b x :: Zf b l
def JU (b : Int) (r : X) : List X → X
 | [] => x0
 | x :: l => if l.length = 0 then Q8 [Qo b x,r] else x0
end
theorem QdH (l : List X) : W9 l = l.all Zs := by
 induction l with
 | nil => rfl
 | cons x l ih => simp [W9,ih]
theorem QdE (l : List X) : UE l = l.any Zs := by
 induction l with
 | nil => rfl
 | cons x l ih => simp [UE,ih]
theorem Ai (b : Int) (l : List X) : Zf b l = l.map (Qo b) := by
 induction l with
 | nil => rfl
 | cons x l ih => simp [Zf,ih]
theorem EY (b : Int) (s : S4) (ks : List X) : Qo b (.mk 2 s ks) = if s.hasB b = true then x1 else x0 := by rw [Qo,if_pos rfl]
theorem Qrh (b : Int) (s : S4) (ks : List X) : Qo b (.mk 3 s ks) = Ze (Zu b ks) := by rw [Qo,if_neg (by decide),if_pos rfl]
theorem CY (b : Int) (s : S4) (ks : List X) : Qo b (.mk 4 s ks) = Ze (Zf b ks) := by rw [Qo,if_neg (by decide),if_neg (by decide),if_pos rfl]
theorem Cs (b : Int) (s : S4) (a : X) : Qo b (.mk 5 s [a]) = Q8 [Qo b a,.mk 5 s [a]] := by
 rw [Qo,if_neg (by decide),if_neg (by decide),if_neg (by decide),if_pos rfl,JU]
 rfl
mutual
theorem Kc (b : Int) : ∀ {x : X},x.ok → (Qo b x).ok
 | .mk k s ks,h => by
  have ok0 : x0.ok := ⟨S4.zero_sm,trivial⟩
  have ok1 : x1.ok := ⟨S4.zero_sm,trivial⟩
  have hk := X.ok_kids h
  rw [Qo]
  split
  ·split
   ·exact ok1
   ·exact ok0
  ·split
   ·exact C5 (Qb2 b hk)
   ·split
    ·exact C5 (Fq b hk)
    ·split
     ·exact Qh7 b h hk
     ·exact ok0
theorem Qb2 (b : Int) : ∀ {l : List X},(∀ x ∈ l,x.ok) → ∀ x ∈ Zu b l,x.ok
 | [],_,x,hx => by simp [Zu] at hx
 | y :: l,h,x,hx => by
  rw [Zu] at hx
  rcases List.mem_cons.1 hx with rfl | hx
  ·refine Mm fun z hz => ?_
   rcases List.mem_cons.1 hz with rfl | hz
   ·exact Kc b (h y List.mem_cons_self)
   ·exact h z (List.mem_cons_of_mem _ hz)
  ·split at hx
   ·exact Qb2 b (fun z hz => h z (List.mem_cons_of_mem _ hz)) x hx
   ·simp at hx
theorem Fq (b : Int) : ∀ {l : List X},(∀ x ∈ l,x.ok) → ∀ x ∈ Zf b l,x.ok
 | [],_,x,hx => by simp [Zf] at hx
 | y :: l,h,x,hx => by
  rw [Zf] at hx
  rcases List.mem_cons.1 hx with rfl | hx
  ·exact Kc b (h y List.mem_cons_self)
  ·exact Fq b (fun z hz => h z (List.mem_cons_of_mem _ hz)) x hx
theorem Qh7 (b : Int) {r : X} (hr : r.ok) : ∀ {l : List X},(∀ x ∈ l,x.ok) → (JU b r l).ok
 | [],_ => ⟨S4.zero_sm,trivial⟩
 | y :: l,h => by
  rw [JU]
  split
  ·refine Mm fun z hz => ?_
   simp only [List.mem_cons,List.not_mem_nil,or_false] at hz
   rcases hz with rfl | rfl
   ·exact Kc b (h y List.mem_cons_self)
   ·exact hr
  ·exact ⟨S4.zero_sm,trivial⟩
end
mutual
theorem Ve (b : Int) : ∀ {x : X},Rt x → Rt (Qo b x)
 | .mk k s ks,h => by
  have hk := ((Ys _).1 h).1
  rw [Qo]
  split
  ·split
   ·exact LF
   ·exact UQ
  ·split
   ·exact CN (CX b hk)
   ·split
    ·exact CN (Ew b hk)
    ·split
     ·exact QnO b h hk
     ·exact UQ
theorem CX (b : Int) : ∀ {l : List X},(∀ x ∈ l,Rt x) → ∀ x ∈ Zu b l,Rt x
 | [],_,x,hx => by simp [Zu] at hx
 | y :: l,h,x,hx => by
  rw [Zu] at hx
  rcases List.mem_cons.1 hx with rfl | hx
  ·refine Aq fun z hz => ?_
   rcases List.mem_cons.1 hz with rfl | hz
   ·exact Ve b (h y List.mem_cons_self)
   ·exact h z (List.mem_cons_of_mem _ hz)
  ·split at hx
   ·exact CX b (fun z hz => h z (List.mem_cons_of_mem _ hz)) x hx
   ·simp at hx
theorem Ew (b : Int) : ∀ {l : List X},(∀ x ∈ l,Rt x) → ∀ x ∈ Zf b l,Rt x
 | [],_,x,hx => by simp [Zf] at hx
 | y :: l,h,x,hx => by
  rw [Zf] at hx
  rcases List.mem_cons.1 hx with rfl | hx
  ·exact Ve b (h y List.mem_cons_self)
  ·exact Ew b (fun z hz => h z (List.mem_cons_of_mem _ hz)) x hx
theorem QnO (b : Int) {r : X} (hr : Rt r) : ∀ {l : List X},(∀ x ∈ l,Rt x) → Rt (JU b r l)
 | [],_ => UQ
 | y :: l,h => by
  rw [JU]
  split
  ·refine Aq fun z hz => ?_
   simp only [List.mem_cons,List.not_mem_nil,or_false] at hz
   rcases hz with rfl | rfl
   ·exact Ve b (h y List.mem_cons_self)
   ·exact hr
  ·exact UQ
end
abbrev LIM : Nat := 600000000000
mutual
def Gd (b : Int) : X → Prop
 | .mk k s ks => if k = 3 then Qk (Zu b ks) + (ks.length + 2) ≤ LIM ∧ GdW b ks else if k = 4 then Qk (Zf b ks) ≤ LIM ∧ GdA b ks else if k = 5 then GdS b (.mk k s ks) ks else True
def GdW (b : Int) : List X → Prop
 | [] => True
 | x :: l => Gd b x ∧ (Qo b x).size + Qk l ≤ LIM ∧ (Zs x = true → GdW b l)
def GdA (b : Int) : List X → Prop
 | [] => True
 | x :: l => Gd b x ∧ GdA b l
def GdS (b : Int) (r : X) : List X → Prop
 | [] => True
 | x :: l => l.length = 0 → Gd b x ∧ (Qo b x).size + r.size ≤ LIM
end
theorem Xr {b : Int} : ∀ {l : List X},(∀ x ∈ l,(Qo b x).size ≤ 2 * (x.size * x.size)) → Qk (Zu b l) ≤ 2 * (Qk l * Qk l) + l.length
 | [],_ => by simp [Zu,Qk]
 | x :: l,h => by
  have h1 := h x List.mem_cons_self
  have h2 := Xr (b := b) fun y hy => h y (List.mem_cons_of_mem _ hy)
  have h3 := F6 (Qo b x :: l)
  have h4 : Qk (if Zs x = true then Zu b l else []) ≤ Qk (Zu b l) := by
   split
   ·exact Nat.le_refl _
   ·simp [Qk]
  have hp := Yl x
  rw [Zu]
  simp only [Qk,List.length_cons] at h3 ⊢
  have e : (x.size + Qk l) * (x.size + Qk l) = x.size * x.size + 2 * (x.size * Qk l) + Qk l * Qk l := by
   rw [Nat.add_mul,Nat.mul_add,Nat.mul_add,Nat.mul_comm (Qk l) x.size]; omega
  have e2 : Qk l ≤ x.size * Qk l := Nat.le_mul_of_pos_left _ hp
  rw [e]
  omega
theorem QdV {a b : Nat} (h : a + 1 ≤ b) : 2 * (a * a) + 4 * a + 2 ≤ 2 * (b * b) := by
 have := Nat.mul_le_mul h h
 rw [Nat.add_mul,Nat.mul_add,Nat.mul_add] at this
 omega
theorem A5 {b : Int} : ∀ {l : List X},(∀ x ∈ l,(Qo b x).size ≤ 2 * (x.size * x.size)) → Qk (Zf b l) ≤ 2 * (Qk l * Qk l)
 | [],_ => by simp [Zf,Qk]
 | x :: l,h => by
  have h1 := h x List.mem_cons_self
  have h2 := A5 (b := b) fun y hy => h y (List.mem_cons_of_mem _ hy)
  rw [Zf]
  simp only [Qk]
  have e : (x.size + Qk l) * (x.size + Qk l) = x.size * x.size + 2 * (x.size * Qk l) + Qk l * Qk l := by
   rw [Nat.add_mul,Nat.mul_add,Nat.mul_add,Nat.mul_comm (Qk l) x.size]; omega
  rw [e]
  omega
theorem Pp (b : Int) : ∀ (n : Nat) (x : X),x.size ≤ n → (Qo b x).size ≤ 2 * (x.size * x.size)
 | 0,x,h => by have := Yl x; omega
 | n + 1,.mk k s ks,h => by
  have hsz : Qk ks ≤ n := by simp only [X.size] at h; omega
  have hk : ∀ x ∈ ks,(Qo b x).size ≤ 2 * (x.size * x.size) := fun x hx => Pp b n x (Nat.le_trans (Yv hx) hsz)
  have hp := QdV (a := Qk ks) (b := (X.mk k s ks).size) (by simp only [X.size]; omega)
  have hl := Yq ks
  have e0 : x0.size = 1 := rfl
  have e1 : x1.size = 1 := rfl
  rw [Qo]
  split
  ·split <;> omega
  ·split
   ·have h1 := G8 (Zu b ks)
    have h2 := Xr hk
    simp only [X.size] at hp ⊢
    by_cases hz : ks.length = 0
    ·have : ks = [] := List.length_eq_zero_iff.1 hz
     subst this
     have e2 : Qk (Zu b []) = 0 := rfl
     have e3 : Qk [] = 0 := rfl
     omega
    ·have := QdV (a := Qk ks) (b := 1 + Qk ks) (by omega)
     omega
   ·split
    ·have h1 := G8 (Zf b ks)
     have h2 := A5 hk
     simp only [X.size] at hp ⊢
     omega
    ·split
     ·match ks,hk,hp with
      | [],_,hp => rw [JU]; omega
      | a :: l,hk,hp =>
       rw [JU]
       split
       ·rename_i h0
        have hln : l = [] := List.length_eq_zero_iff.1 h0
        subst hln
        have h1 := F6 [Qo b a,.mk k s [a]]
        have h2 := hk a List.mem_cons_self
        simp only [Qk,X.size,Nat.add_zero] at h1 hp ⊢
        have := Yl a
        omega
       ·omega
     ·omega
mutual
theorem VV (b : Int) : ∀ (x : X),x.size ≤ 90000 → Gd b x
 | .mk k s ks,h => by
  have hsz : Qk ks ≤ 90000 := by simp only [X.size] at h; omega
  have hl := Yq ks
  have hq := Nat.mul_le_mul hsz hsz
  have hk : ∀ x ∈ ks,(Qo b x).size ≤ 2 * (x.size * x.size) := fun x hx => Pp b x.size x (Nat.le_refl _)
  have e0 : LIM = 600000000000 := rfl
  rw [Gd]
  split
  ·refine ⟨?_,TU b ks hsz⟩
   have := Xr hk
   omega
  ·split
   ·refine ⟨?_,QeS b ks hsz⟩
    have := A5 hk
    omega
   ·split
    ·exact Qji b _ ks h hsz
    ·trivial
theorem TU (b : Int) : ∀ (l : List X),Qk l ≤ 90000 → GdW b l
 | [],_ => trivial
 | x :: l,h => by
  simp only [Qk] at h
  have h1 := Pp b x.size x (Nat.le_refl _)
  have hq := Nat.mul_le_mul (show x.size ≤ 90000 by omega) (show x.size ≤ 90000 by omega)
  have e0 : LIM = 600000000000 := rfl
  rw [GdW]
  exact ⟨VV b x (by omega),by omega,fun _ => TU b l (by omega)⟩
theorem QeS (b : Int) : ∀ (l : List X),Qk l ≤ 90000 → GdA b l
 | [],_ => trivial
 | x :: l,h => by
  simp only [Qk] at h
  rw [GdA]
  exact ⟨VV b x (by omega),QeS b l (by omega)⟩
theorem Qji (b : Int) (r : X) : ∀ (l : List X),r.size ≤ 90000 → Qk l ≤ 90000 → GdS b r l
 | [],_,_ => trivial
 | x :: l,hr,h => by
  simp only [Qk] at h
  have h1 := Pp b x.size x (Nat.le_refl _)
  have hq := Nat.mul_le_mul (show x.size ≤ 90000 by omega) (show x.size ≤ 90000 by omega)
  have e0 : LIM = 600000000000 := rfl
  rw [GdS]
  exact fun _ => ⟨VV b x (by omega),by omega⟩
end
def conv (f g : Nat → Nat) : Nat → Nat
 | 0 => f 0 * g 0
 | n + 1 => f 0 * g (n + 1) + conv (fun k => f (k + 1)) g n
theorem Rr {f f' g g' : Nat → Nat} : ∀ (n : Nat),(∀ k,k ≤ n → f k ≤ f' k) → (∀ k,k ≤ n → g k ≤ g' k) → conv f g n ≤ conv f' g' n := by
 intro n
 induction n generalizing f f' with
 | zero => intro h k; exact Nat.mul_le_mul (h 0 (Nat.le_refl _)) (k 0 (Nat.le_refl _))
 | succ n ih =>
  intro h k
  exact Nat.add_le_add (Nat.mul_le_mul (h 0 (Nat.zero_le _)) (k _ (Nat.le_refl _))) (ih (fun j hj => h (j + 1) (by omega)) fun j hj => k j (by omega))
theorem En (f g h : Nat → Nat) : ∀ n,conv f (fun k => g k + h k) n = conv f g n + conv f h n := by
 intro n
 induction n generalizing f with
 | zero => simp only [conv,Nat.mul_add]
 | succ n ih => simp only [conv,ih,Nat.mul_add]; omega
theorem Qk6 (f f' g : Nat → Nat) : ∀ n,conv (fun k => f k + f' k) g n = conv f g n + conv f' g n := by
 intro n
 induction n generalizing f f' with
 | zero => simp only [conv,Nat.add_mul]
 | succ n ih => simp only [conv,Nat.add_mul]; rw [ih (fun k => f (k + 1)) fun k => f' (k + 1)]; omega
theorem QiW (c : Nat) (f g : Nat → Nat) : ∀ n,conv (fun k => c * f k) g n = c * conv f g n := by
 intro n
 induction n generalizing f with
 | zero => simp only [conv,Nat.mul_assoc]
 | succ n ih => simp only [conv,Nat.mul_add,Nat.mul_assoc]; rw [ih fun k => f (k + 1)]
theorem Qpd (c : Nat) (f g : Nat → Nat) : ∀ n,conv f (fun k => c * g k) n = c * conv f g n := by
 intro n
 induction n generalizing f with
 | zero => simp only [conv,Nat.mul_left_comm]
 | succ n ih => simp only [conv,Nat.mul_add,Nat.mul_left_comm c,ih]
theorem VS (f g : Nat → Nat) (n : Nat) : conv f g (n + 1) = f 0 * g (n + 1) + conv (fun k => f (k + 1)) g n := rfl
theorem EO (f g h : Nat → Nat) : ∀ n,conv f (conv g h) n = conv (conv f g) h n := by
 intro n
 induction n generalizing f with
 | zero => simp only [conv,Nat.mul_assoc]
 | succ n ih =>
  rw [VS,ih,VS,VS]
  have e : (fun k => conv f g (k + 1)) = fun k => f 0 * g (k + 1) + conv (fun k => f (k + 1)) g k := rfl
  rw [e,Qk6,QiW]
  simp only [conv,Nat.mul_add,Nat.mul_assoc]
  omega
def dl : Nat → Nat := fun n => if n = 0 then 1 else 0
theorem Qnv (g : Nat → Nat) : ∀ n,conv (fun _ => 0) g n = 0 := by
 intro n
 induction n with
 | zero => simp [conv]
 | succ n ih => simp only [conv,Nat.zero_mul,ih]
theorem QgZ (f : Nat → Nat) : ∀ n,conv f (fun _ => 0) n = 0 := by
 intro n
 induction n generalizing f with
 | zero => simp [conv]
 | succ n ih => simp only [conv,Nat.mul_zero,ih]
theorem LU (g : Nat → Nat) (n : Nat) : conv dl g n = g n := by
 cases n with
 | zero => simp [conv,dl]
 | succ n =>
  rw [VS]
  have : (fun k => dl (k + 1)) = fun _ => 0 := rfl
  rw [this,Qnv]
  simp [dl]
theorem QiK (f : Nat → Nat) : ∀ n,conv f dl n = f n := by
 intro n
 induction n generalizing f with
 | zero => simp [conv,dl]
 | succ n ih => rw [VS,ih]; simp [dl]
def KZ (h f : Nat → Nat) : Nat → Nat → Nat
 | _,0 => h 0
 | 0,n + 1 => h (n + 1)
 | m + 1,n + 1 => h (n + 1) + conv f (KZ h f m) n
theorem QcR {f g g' : Nat → Nat} (n : Nat) (h : ∀ k,k ≤ n → g k = g' k) : conv f g n = conv f g' n :=
 Nat.le_antisymm (Rr n (fun _ _ => Nat.le_refl _) fun k hk => Nat.le_of_eq (h k hk)) (Rr n (fun _ _ => Nat.le_refl _) fun k hk => Nat.le_of_eq (h k hk).symm)
theorem QpC (h f : Nat → Nat) : ∀ (m m' n : Nat),n ≤ m → n ≤ m' → KZ h f m n = KZ h f m' n := by
 intro m
 induction m with
 | zero =>
  intro m' n h1 h2
  obtain rfl : n = 0 := by omega
  cases m' <;> rfl
 | succ m ih =>
  intro m' n h1 h2
  cases n with
  | zero => cases m' <;> rfl
  | succ n =>
   cases m' with
   | zero => omega
   | succ m' =>
    simp only [KZ]
    rw [QcR n fun k hk => ih m' k (by omega) (by omega)]
def Ue (h f : Nat → Nat) (n : Nat) : Nat := KZ h f n n
theorem Qmn (h f : Nat → Nat) : Ue h f 0 = h 0 := rfl
theorem AQ (h f : Nat → Nat) (n : Nat) : Ue h f (n + 1) = h (n + 1) + conv f (Ue h f) n := by
 unfold Ue
 rw [KZ,QcR n fun k hk => QpC h f n k k hk (Nat.le_refl _)]
theorem CH {h h' f f' : Nat → Nat} : ∀ (m n : Nat),(∀ k,k ≤ n → h k ≤ h' k) → (∀ k,k < n → f k ≤ f' k) → KZ h f m n ≤ KZ h' f' m n := by
 intro m
 induction m with
 | zero => intro n a b; cases n <;> exact a _ (Nat.le_refl _)
 | succ m ih =>
  intro n a b
  cases n with
  | zero => exact a _ (Nat.le_refl _)
  | succ n =>
   simp only [KZ]
   exact Nat.add_le_add (a _ (Nat.le_refl _)) (Rr n (fun k hk => b k (by omega)) fun k hk => ih k (fun j hj => a j (by omega)) fun j hj => b j (by omega))
structure Me where
 p : Nat
 t : Nat → Nat
 s : Nat → Nat
 v : Nat → Nat
def Me.sh (A : Me) : Me := ⟨A.s 0,fun n => A.t (n + 1),fun n => A.s (n + 1),fun n => A.v (n + 1)⟩
def Me.cat (A B : Me) : Me := ⟨A.p + B.p,fun n => A.t n + conv A.v B.t n,fun n => A.s n + B.p * A.t n + conv A.v B.s n,conv A.v B.v⟩
def Me.or (A B : Me) : Me := ⟨A.p + B.p,fun n => max (A.t n) (B.t n),fun n => A.s n + B.s n,fun n => max (A.v n) (B.v n)⟩
def Me.zero : Me := ⟨0,fun _ => 0,fun _ => 0,fun _ => 0⟩
def Me.e : Me := ⟨0,fun _ => 0,fun _ => 0,dl⟩
def Me.emp : Me := ⟨1,fun _ => 0,fun _ => 0,dl⟩
def Me.byte : Me := ⟨1,dl,dl,fun n => if n = 1 then 1 else 0⟩
def Me.star (A : Me) : Me := ⟨A.p + 1,Ue (fun n => if n = 0 then 1 else A.t n) (fun n => A.v (n + 1)),Ue (fun n => if n = 0 then A.s 0 + (A.p + 1) else A.s n + (A.p + 1) * A.t n) (fun n => A.v (n + 1)),Ue dl fun n => A.v (n + 1)⟩
structure Me.le (N : Nat) (A B : Me) : Prop where
 p : A.p ≤ B.p
 t : ∀ n,n < N → A.t n ≤ B.t n
 s : ∀ n,n < N → A.s n ≤ B.s n
 v : ∀ n,n < N → A.v n ≤ B.v n
theorem Me.le.refl (N : Nat) (A : Me) : Me.le N A A := ⟨Nat.le_refl _,fun _ _ => Nat.le_refl _,fun _ _ => Nat.le_refl _,fun _ _ => Nat.le_refl _⟩
theorem Me.le.trans {N : Nat} {A B C : Me} (h : Me.le N A B) (g : Me.le N B C) : Me.le N A C := ⟨Nat.le_trans h.p g.p,fun n hn => Nat.le_trans (h.t n hn) (g.t n hn),fun n hn => Nat.le_trans (h.s n hn) (g.s n hn),fun n hn => Nat.le_trans (h.v n hn) (g.v n hn)⟩
theorem Me.cat_le {N : Nat} {A A' B B' : Me} (h : Me.le N A A') (g : Me.le N B B') : Me.le N (A.cat B) (A'.cat B') := ⟨Nat.add_le_add h.p g.p,
 fun n hn => Nat.add_le_add (h.t n hn) (Rr n (fun k hk => h.v k (by omega)) fun k hk => g.t k (by omega)),
 fun n hn => Nat.add_le_add (Nat.add_le_add (h.s n hn) (Nat.mul_le_mul g.p (h.t n hn))) (Rr n (fun k hk => h.v k (by omega)) fun k hk => g.s k (by omega)),
 fun n hn => Rr n (fun k hk => h.v k (by omega)) fun k hk => g.v k (by omega)⟩
theorem Me.or_le {N : Nat} {A A' B B' : Me} (h : Me.le N A A') (g : Me.le N B B') : Me.le N (A.or B) (A'.or B') := ⟨Nat.add_le_add h.p g.p,
 fun n hn => by have := h.t n hn; have := g.t n hn; simp only [Me.or]; omega,fun n hn => Nat.add_le_add (h.s n hn) (g.s n hn),fun n hn => by have := h.v n hn; have := g.v n hn; simp only [Me.or]; omega⟩
theorem Me.star_le {N : Nat} {A A' : Me} (h : Me.le N A A') : Me.le N A.star A'.star := ⟨Nat.add_le_add_right h.p 1,
 fun n hn => CH n n (fun k hk => by
  show (if k = 0 then 1 else A.t k) ≤ if k = 0 then 1 else A'.t k
  split
  ·exact Nat.le_refl _
  ·exact h.t k (by omega)) fun k hk => h.v (k + 1) (by omega),
 fun n hn => CH n n (fun k hk => by
  show (if k = 0 then A.s 0 + (A.p + 1) else A.s k + (A.p + 1) * A.t k) ≤ if k = 0 then A'.s 0 + (A'.p + 1) else A'.s k + (A'.p + 1) * A'.t k
  split
  ·rename_i e; subst e; exact Nat.add_le_add (h.s 0 (by omega)) (Nat.add_le_add_right h.p 1)
  ·exact Nat.add_le_add (h.s k (by omega)) (Nat.mul_le_mul (Nat.add_le_add_right h.p 1) (h.t k (by omega)))) fun k hk => h.v (k + 1) (by omega),
 fun n hn => CH n n (fun _ _ => Nat.le_refl _) fun k hk => h.v (k + 1) (by omega)⟩
theorem Me.sh_le {N : Nat} {A B : Me} (h : Me.le (N + 1) A B) : Me.le N A.sh B.sh := ⟨h.s 0 (by omega),fun n hn => h.t (n + 1) (by omega),fun n hn => h.s (n + 1) (by omega),fun n hn => h.v (n + 1) (by omega)⟩
theorem Me.ext {A B : Me} (hp : A.p = B.p) (ht : ∀ n,A.t n = B.t n) (hs : ∀ n,A.s n = B.s n) (hv : ∀ n,A.v n = B.v n) : A = B := by
 obtain ⟨p,t,s,v⟩ := A
 obtain ⟨p',t',s',v'⟩ := B
 obtain rfl : p = p' := hp
 obtain rfl : t = t' := funext ht
 obtain rfl : s = s' := funext hs
 obtain rfl : v = v' := funext hv
 rfl
theorem Me.cat_assoc (A B C : Me) : A.cat (B.cat C) = (A.cat B).cat C := Me.ext (by simp only [Me.cat]; omega)
 (fun n => by simp only [Me.cat]; rw [En,EO]; omega)
 (fun n => by
  simp only [Me.cat]
  rw [show (fun n => B.s n + C.p * B.t n + conv B.v C.s n) = fun n => (B.s n + C.p * B.t n) + conv B.v C.s n from rfl,En,En,Qpd,EO,Nat.add_mul,Nat.mul_add]
  omega)
 fun n => by simp only [Me.cat]; exact EO ..
theorem Me.e_cat (A : Me) : Me.e.cat A = A := Me.ext (by simp [Me.cat,Me.e]) (fun n => by simp only [Me.cat,Me.e,LU]; omega) (fun n => by simp only [Me.cat,Me.e,LU]; omega) fun n => by simp only [Me.cat,Me.e,LU]
theorem Me.cat_e (A : Me) : A.cat Me.e = A := Me.ext (by simp [Me.cat,Me.e]) (fun n => by simp only [Me.cat,Me.e,QgZ]; omega) (fun n => by simp only [Me.cat,Me.e,QgZ]; omega) fun n => by simp only [Me.cat,Me.e,QiK]
theorem Me.or_assoc (A B C : Me) : A.or (B.or C) = (A.or B).or C := Me.ext (by simp only [Me.or]; omega) (fun n => by simp only [Me.or]; omega) (fun n => by simp only [Me.or]; omega) fun n => by simp only [Me.or]; omega
theorem Me.zero_or (A : Me) : Me.zero.or A = A := Me.ext (by simp [Me.or,Me.zero]) (fun n => by simp only [Me.or,Me.zero]; omega) (fun n => by simp only [Me.or,Me.zero]; omega) fun n => by simp only [Me.or,Me.zero]; omega
theorem Me.or_zero (A : Me) : A.or Me.zero = A := Me.ext (by simp [Me.or,Me.zero]) (fun n => by simp only [Me.or,Me.zero]; omega) (fun n => by simp only [Me.or,Me.zero]; omega) fun n => by simp only [Me.or,Me.zero]; omega
theorem Me.le_or_left (N : Nat) (A B : Me) : Me.le N A (A.or B) := ⟨Nat.le_add_right _ _,fun n _ => by simp only [Me.or]; omega,fun n _ => Nat.le_add_right _ _,fun n _ => by simp only [Me.or]; omega⟩
theorem Me.star_sh (A : Me) : A.star.sh = A.sh.cat A.star := Me.ext (by simp only [Me.star,Me.sh,Me.cat,Qmn]; rfl)
 (fun n => by simp only [Me.star,Me.sh,Me.cat]; rw [AQ,if_neg (by omega)])
 (fun n => by simp only [Me.star,Me.sh,Me.cat]; rw [AQ,if_neg (by omega)])
 fun n => by
  simp only [Me.star,Me.sh,Me.cat]
  rw [AQ]
  simp [dl]
mutual
def mX : X → Me
 | .mk k s ks => if k = 1 then Me.emp else if k = 2 then Me.byte else if k = 3 then mC ks else if k = 4 then mE ks else if k = 5 then mS ks else Me.zero
def mC : List X → Me
 | [] => Me.e
 | x :: l => (mX x).cat (mC l)
def mE : List X → Me
 | [] => Me.zero
 | x :: l => (mX x).or (mE l)
def mS : List X → Me
 | [] => Me.zero
 | x :: l => (mX x).star
end
theorem Qk0 (s : S4) (ks : List X) : mX (.mk 2 s ks) = Me.byte := rfl
theorem Nu (s : S4) (ks : List X) : mX (.mk 3 s ks) = mC ks := rfl
theorem Rm (s : S4) (ks : List X) : mX (.mk 4 s ks) = mE ks := rfl
theorem F3 (s : S4) (a : X) : mX (.mk 5 s [a]) = (mX a).star := rfl
theorem zero_le (N : Nat) (A : Me) : Me.le N Me.zero A := ⟨Nat.zero_le _,fun _ _ => Nat.zero_le _,fun _ _ => Nat.zero_le _,fun _ _ => Nat.zero_le _⟩
theorem QbR (N : Nat) : Me.le N Me.e Me.emp := ⟨Nat.zero_le _,fun _ _ => Nat.le_refl _,fun _ _ => Nat.le_refl _,fun _ _ => Nat.le_refl _⟩
theorem TX : ∀ l m : List X,mC (l ++ m) = (mC l).cat (mC m)
 | [],m => (Me.e_cat _).symm
 | x :: l,m => by rw [List.cons_append,mC,mC,TX l m,Me.cat_assoc]
theorem TO : ∀ l m : List X,mE (l ++ m) = (mE l).or (mE m)
 | [],m => (Me.zero_or _).symm
 | x :: l,m => by rw [List.cons_append,mE,mE,TO l m,Me.or_assoc]
theorem Qkj (l : List X) : mC (flatK 3 l) = mC l := by
 induction l with
 | nil => rfl
 | cons x l ih =>
  have e : flatK 3 (x :: l) = (if x.k = 3 then x.ks else [x]) ++ flatK 3 l := rfl
  rw [e,TX,ih,mC]
  congr 1
  cases x with
  | mk k s ks =>
   show mC (if k = 3 then ks else [.mk k s ks]) = _
   split
   ·rename_i h; subst h; rfl
   ·rw [mC,mC,Me.cat_e]
theorem Qqr (l : List X) : mE (flatK 4 l) = mE l := by
 induction l with
 | nil => rfl
 | cons x l ih =>
  have e : flatK 4 (x :: l) = (if x.k = 4 then x.ks else [x]) ++ flatK 4 l := rfl
  rw [e,TO,ih,mE]
  congr 1
  cases x with
  | mk k s ks =>
   show mE (if k = 4 then ks else [.mk k s ks]) = _
   split
   ·rename_i h; subst h; rfl
   ·rw [mE,mE,Me.or_zero]
theorem Cz {x : X} (h : x.k = 1) : mX x = Me.emp := by
 cases x with
 | mk k s ks => obtain rfl : k = 1 := h; rfl
theorem An {x : X} (h : x.k = 2) : mX x = Me.byte := by
 cases x with
 | mk k s ks => obtain rfl : k = 2 := h; rfl
theorem Qmo (N : Nat) (l : List X) : Me.le N (mC (l.filter fun x => !decide (x.k = 1))) (mC l) := by
 induction l with
 | nil => exact Me.le.refl _ _
 | cons x l ih =>
  rw [List.filter_cons]
  split
  ·rw [mC,mC]; exact Me.cat_le (Me.le.refl _ _) ih
  ·rename_i h
   have h1 : x.k = 1 := by simpa using h
   rw [mC,Cz h1]
   have := Me.cat_le (QbR N) ih
   rwa [Me.e_cat] at this
theorem Qc8 : ∀ l : List X,(∀ x ∈ l,x.k = 1) → ∀ n,(mC l).v n = dl n
 | [],_,n => rfl
 | x :: l,h,n => by
  rw [mC,Cz (h x List.mem_cons_self)]
  show conv dl (mC l).v n = dl n
  rw [LU]
  exact Qc8 l (fun y hy => h y (List.mem_cons_of_mem _ hy)) n
theorem Xk {s : S4} {ks : List X} (h : Rt (.mk 3 s ks)) : 1 < ks.length := by
 have h2 := ((Ys _).1 h).2
 rw [Jo] at h2
 split at h2
 ·cases h2
 ·rw [if_neg (by decide),if_neg (by decide),if_neg (by decide),if_pos rfl,Bool.and_eq_true,decide_eq_true_eq] at h2
  exact h2.1
theorem CZ {l : List X} (hl : l ≠ []) (h : ∀ x ∈ l,Rt x) (N : Nat) : Me.le N (mX (Q8 l)) (mC l) := by
 rw [Fy]
 split
 ·exact zero_le _ _
 ·have hb : Me.le N (mC (JI l)) (mC l) := by
   have := Qmo N (flatK 3 l)
   rwa [Qkj] at this
  have h1 : JI l = [] → ∀ x ∈ l,x.k = 1 := fun e x hx => Classical.byContradiction fun hk => by
   by_cases h3 : x.k = 3
   ·cases x with
    | mk k s ks =>
     obtain rfl : k = 3 := h3
     have hlen := Xk (h _ hx)
     obtain ⟨y,hy⟩ : ∃ y,y ∈ ks := List.exists_mem_of_length_pos (by omega)
     have hy1 := (Rp (h _ hx) rfl y hy).2.2.2
     have : y ∈ JI l := List.mem_filter.2 ⟨List.mem_flatMap.2 ⟨_,hx,by rw [if_pos (by rfl)]; exact hy⟩,by simp [hy1]⟩
     rw [e] at this
     simp at this
   ·have : x ∈ JI l := List.mem_filter.2 ⟨List.mem_flatMap.2 ⟨_,hx,by rw [if_neg h3]; simp⟩,by simp [hk]⟩
    rw [e] at this
    simp at this
  generalize JI l = F at hb h1
  match F,hb,h1 with
  | [],_,h1 =>
   show Me.le N Me.emp (mC l)
   obtain ⟨x,l,rfl⟩ := List.exists_cons_of_ne_nil hl
   have hv := Qc8 _ (h1 rfl)
   refine ⟨?_,fun _ _ => Nat.zero_le _,fun _ _ => Nat.zero_le _,fun n _ => Nat.le_of_eq (hv n).symm⟩
   rw [mC,Cz (h1 rfl x List.mem_cons_self)]
   exact Nat.le_add_right 1 _
  | [z],hb,_ =>
   rw [mC,mC,Me.cat_e] at hb
   exact hb
  | z :: w :: F,hb,_ => exact hb
def ZE (w : X → Nat) : List X → Nat
 | [] => 0
 | x :: l => w x + ZE w l
theorem TR (w : X → Nat) (l m : List X) : ZE w (l ++ m) = ZE w l + ZE w m := by
 induction l with
 | nil => simp [ZE]
 | cons x l ih => rw [List.cons_append,ZE,ZE,ih]; omega
theorem Et (w : X → Nat) (p : X → Bool) (l : List X) : ZE w (l.filter p) ≤ ZE w l := by
 induction l with
 | nil => exact Nat.le_refl _
 | cons x l ih => rw [List.filter_cons]; split <;> simp only [ZE] <;> omega
theorem Qo5 (w : X → Nat) (r : X) (l : List X) : ZE w (Q3 r l) ≤ ZE w l + w r := by
 induction l with
 | nil => simp [Q3,ZE]
 | cons y l ih =>
  unfold Q3
  split
  ·simp only [ZE]; omega
  ·split
   ·simp only [ZE]; omega
   ·simp only [ZE]; omega
theorem T3 (w : X → Nat) : ∀ (o b : List X),ZE w (o.foldl (fun a r => Q3 r a) b) ≤ ZE w b + ZE w o
 | [],b => by simp [ZE]
 | r :: o,b => by
  have h1 := T3 w o (Q3 r b)
  have h2 := Qo5 w r b
  simp only [List.foldl_cons,ZE]; omega
theorem QcX {w : X → Nat} {c : Nat} (hw : ∀ x : X,x.k = 2 → w x = c) (l : List X) : ZE w (ZC l) ≤ ZE w (flatK 4 l) := by
 have h2 := T3 w (Zy (flatK 4 l)) (Zp (Zh (flatK 4 l)))
 have h4 : ZE w (Zp (Zh (flatK 4 l))) + ZE w (Zy (flatK 4 l)) ≤ ZE w (flatK 4 l) := by
  by_cases hz : Zh (flatK 4 l) = S4.zero
  ·rw [Zp,if_pos hz]
   have := Et w (fun x => !decide (x.k = 0) && !decide (x.k = 2)) (flatK 4 l)
   simp only [ZE]
   unfold Zy
   omega
  ·rw [Zp,if_neg hz]
   have : ∃ x ∈ flatK 4 l,x.k = 2 := Classical.byContradiction fun hc => hz (BJ _ fun x hx h2 => hc ⟨x,hx,h2⟩)
   obtain ⟨x,hx,hk⟩ := this
   obtain ⟨a,b,e⟩ := List.append_of_mem hx
   rw [e]
   unfold Zy
   rw [List.filter_append,List.filter_cons,if_neg (by simp [hk]),TR,TR]
   have ha := Et w (fun x => !decide (x.k = 0) && !decide (x.k = 2)) a
   have hb := Et w (fun x => !decide (x.k = 0) && !decide (x.k = 2)) b
   simp only [ZE,hw x hk,hw (.mk 2 (Zh (a ++ x :: b)) []) rfl]
   omega
 unfold ZC
 omega
theorem Tp (l : List X) : (mE l).p = ZE (fun x => (mX x).p) l := by
 induction l with
 | nil => rfl
 | cons x l ih => rw [mE,ZE,← ih]; rfl
theorem QbV (l : List X) (n : Nat) : (mE l).s n = ZE (fun x => (mX x).s n) l := by
 induction l with
 | nil => rfl
 | cons x l ih => rw [mE,ZE,← ih]; rfl
theorem AR {l : List X} {n c : Nat} : (mE l).t n ≤ c ↔ ∀ x ∈ l,(mX x).t n ≤ c := by
 induction l with
 | nil => simp [mE,Me.zero]
 | cons x l ih => rw [mE]; simp only [Me.or,Nat.max_le,ih,List.forall_mem_cons]
theorem Cc {l : List X} {n c : Nat} : (mE l).v n ≤ c ↔ ∀ x ∈ l,(mX x).v n ≤ c := by
 induction l with
 | nil => simp [mE,Me.zero]
 | cons x l ih => rw [mE]; simp only [Me.or,Nat.max_le,ih,List.forall_mem_cons]
theorem AL (l : List X) (N : Nat) : Me.le N (mX (Ze l)) (mE l) := by
 have hb : Me.le N (mE (ZC l)) (mE l) := by
  have hm : ∀ x ∈ ZC l,∃ y ∈ flatK 4 l,mX x = mX y := fun x hx => by
   rcases Kl hx with ⟨rfl,hz⟩ | ⟨h,_⟩
   ·have : ∃ x ∈ flatK 4 l,x.k = 2 := Classical.byContradiction fun hc => hz (BJ _ fun x hx h2 => hc ⟨x,hx,h2⟩)
    obtain ⟨y,hy,hk⟩ := this
    exact ⟨y,hy,by rw [An hk]; rfl⟩
   ·exact ⟨x,h,rfl⟩
  rw [← Qqr l]
  refine ⟨?_,fun n _ => ?_,fun n _ => ?_,fun n _ => ?_⟩
  ·rw [Tp,Tp]
   exact QcX (c := Me.byte.p) (fun x hk => by rw [An hk]) l
  ·refine AR.2 fun x hx => ?_
   obtain ⟨y,hy,e⟩ := hm x hx
   rw [e]
   exact AR.1 (Nat.le_refl _) y hy
  ·rw [QbV,QbV]
   exact QcX (c := Me.byte.s n) (fun x hk => by rw [An hk]) l
  ·refine Cc.2 fun x hx => ?_
   obtain ⟨y,hy,e⟩ := hm x hx
   rw [e]
   exact Cc.1 (Nat.le_refl _) y hy
 rw [M0]
 generalize ZC l = F at hb
 match F,hb with
 | [],_ => exact zero_le _ _
 | [z],hb =>
  rw [mE,mE,Me.or_zero] at hb
  exact hb
 | z :: w :: F,hb => exact hb
theorem Tj {s : S4} {ks : List X} (h : Rt (.mk 4 s ks)) : 1 < ks.length ∧ ZC ks = ks := by
 obtain ⟨h1,h2⟩ := (Ys _).1 h
 rw [Jo] at h2
 split at h2
 ·cases h2
 ·rename_i hs
  have hs : s = S4.zero := Classical.byContradiction fun e => hs ⟨by decide,e⟩
  subst hs
  rw [if_neg (by decide),if_neg (by decide),if_neg (by decide),if_neg (by decide),if_pos rfl,Bool.and_eq_true,decide_eq_true_eq] at h2
  obtain ⟨hl,hc⟩ := h2
  have hc := J4 hc
  rw [M0] at hc
  refine ⟨hl,?_⟩
  have key : ∀ F : List X,F = ZC ks → ofL F 4 0 = .mk 4 S4.zero ks → F = ks := fun F hF e => by
   match F,hF,e with
   | [],_,e => injection e with e
   | [z],hF,e =>
    have e : z = .mk 4 S4.zero ks := e
    have hz : z ∈ ZC ks := by rw [← hF]; simp
    rcases Kl hz with ⟨a,_⟩ | ⟨a,_⟩
    ·rw [e] at a
     injection a with a
     exact absurd a (by decide)
    ·exact absurd e (ED a)
   | z :: w :: F,_,e => injection e
  exact key _ rfl hc
theorem Fi {x : X} (h : Rt x) (h1 : x.k = 1 ∨ x.k = 0) : x = .mk x.k S4.zero [] := by
 cases x with
 | mk k s ks =>
  have h2 := ((Ys _).1 h).2
  have h1 : k = 1 ∨ k = 0 := h1
  rw [Jo] at h2
  split at h2
  ·cases h2
  ·rename_i hs
   have hs : s = S4.zero := Classical.byContradiction fun e => hs ⟨by omega,e⟩
   rw [if_pos (by omega),decide_eq_true_eq] at h2
   subst hs
   rw [List.length_eq_zero_iff.1 h2]
   rfl
theorem QkQ {x : X} (h : Rt x) (h1 : x.k = 2) : x.ks = [] ∧ x.s ≠ S4.zero := by
 cases x with
 | mk k s ks =>
  have h2 := ((Ys _).1 h).2
  obtain rfl : k = 2 := h1
  rw [Jo,if_neg (by simp),if_neg (by decide),if_pos rfl,Bool.and_eq_true,decide_eq_true_eq] at h2
  exact ⟨List.length_eq_zero_iff.1 h2.1,by simpa [X.s] using h2.2⟩
theorem Nm {s : S4} {ks : List X} (h : Rt (.mk 5 s ks)) : ∃ a,ks = [a] ∧ s = S4.zero ∧ Rt a ∧ a.k ≠ 0 ∧ a.k ≠ 1 ∧ a.k ≠ 5 := by
 obtain ⟨h1,h2⟩ := (Ys _).1 h
 rw [Jo] at h2
 split at h2
 ·cases h2
 ·rename_i hs
  have hs : s = S4.zero := Classical.byContradiction fun e => hs ⟨by decide,e⟩
  rw [if_neg (by decide),if_neg (by decide),if_pos rfl,Bool.and_eq_true,decide_eq_true_eq] at h2
  obtain ⟨hl,hc⟩ := h2
  obtain ⟨a,rfl⟩ := List.length_eq_one_iff.1 hl
  have hc := J4 hc
  refine ⟨a,rfl,hs,h1 a (by simp [X.ks]),?_⟩
  cases a with
  | mk k' s' ks' =>
   rw [List.headD_cons,UH] at hc
   split at hc
   ·injection hc with e; exact absurd e (by decide)
   ·rename_i h01
    split at hc
    ·injection hc with e1 e2 e3
     have := congrArg Qk e3
     simp only [Qk,X.size] at this
     omega
    ·exact ⟨fun e => h01 (.inl e),fun e => h01 (.inr e),by assumption⟩
theorem Uc {x : X} (h : Rt x) : x.k = 0 ∨ x.k = 1 ∨ x.k = 2 ∨ x.k = 3 ∨ x.k = 4 ∨ x.k = 5 := by
 cases x with
 | mk k s ks =>
  have h2 := ((Ys _).1 h).2
  rw [Jo] at h2
  show k = 0 ∨ k = 1 ∨ k = 2 ∨ k = 3 ∨ k = 4 ∨ k = 5
  refine Classical.byContradiction fun hc => ?_
  rw [if_neg (show ¬ (k = 0 ∨ k = 1) by omega),if_neg (show ¬ k = 2 by omega),if_neg (show ¬ k = 5 by omega),if_neg (show ¬ k = 3 by omega),if_neg (show ¬ k = 4 by omega)] at h2
  split at h2 <;> cases h2
theorem Qko {s : S4} {ks : List X} (h : Rt (.mk 4 s ks)) : ∃ y ∈ ks,y.k = 2 ∨ y.k = 3 ∨ y.k = 5 := by
 obtain ⟨hl,hb⟩ := Tj h
 have hss := PD ks
 have hk : ∀ y ∈ ks,Rt y ∧ y.k ≠ 4 ∧ y.k ≠ 0 := fun y hy => by
  obtain ⟨h1,h2⟩ := AD h rfl y hy
  refine ⟨h1,h2,fun e => ?_⟩
  rw [← hb] at hy
  rcases Kl hy with ⟨h3,_⟩ | ⟨_,h3,_⟩
  ·rw [h3] at e; exact absurd (show (2 : Int) = 0 from e) (by decide)
  ·exact h3 e
 rw [hb] at hss
 match ks,hl,hss,hk with
 | y :: z :: r,_,hss,hk =>
  obtain ⟨r1,a1,a2⟩ := hk y (by simp)
  obtain ⟨r2,b1,b2⟩ := hk z (by simp)
  by_cases h1 : y.k = 1
  ·by_cases h2 : z.k = 1
   ·have e1 := Fi r1 (.inl h1)
    have e2 := Fi r2 (.inl h2)
    have hlt : lX y z := (List.pairwise_cons.1 hss).1 z (by simp)
    rw [e1,e2,h1,h2] at hlt
    exact absurd hlt (lt_asymm hlt)
   ·have := Uc r2
    exact ⟨z,by simp,by omega⟩
  ·have := Uc r1
   exact ⟨y,by simp,by omega⟩
theorem Qre : ∀ (n : Nat) (x : X),x.size ≤ n → Rt x → x.k ≠ 0 → x.k ≠ 1 → 1 ≤ (mX x).t 0
 | 0,x,h,_,_,_ => by have := Yl x; omega
 | n + 1,.mk k s ks,h,hr,h0,h1 => by
  have hk := Uc hr
  have hsz : Qk ks ≤ n := by simp only [X.size] at h; omega
  simp only [X.k] at h0 h1 hk
  rcases hk with rfl | rfl | rfl | rfl | rfl | rfl
  ·exact absurd rfl h0
  ·exact absurd rfl h1
  ·exact Nat.le_refl 1
  ·have hl := Xk hr
   rw [Nu]
   match ks,hl,hsz,hr with
   | y :: l,_,hsz,hr =>
    obtain ⟨a,b,c,d⟩ := Rp hr rfl y (by simp [X.ks])
    have := Qre n y (by simp only [Qk] at hsz; omega) a c d
    rw [mC]
    exact Nat.le_trans this (Nat.le_add_right _ _)
  ·obtain ⟨y,hy,hk⟩ := Qko hr
   have := Qre n y (Nat.le_trans (Yv hy) hsz) (AD hr rfl y hy).1 (by omega) (by omega)
   rw [Rm]
   exact Nat.le_trans this (AR.1 (Nat.le_refl _) y hy)
  ·obtain ⟨a,rfl,_⟩ := Nm hr
   exact Nat.le_refl 1
theorem Lu : ∀ (n : Nat) (x : X),x.size ≤ n → Rt x → Zs x = true → 1 ≤ (mX x).v 0
 | 0,x,h,_,_ => by have := Yl x; omega
 | n + 1,.mk k s ks,h,hr,h0 => by
  have hk := Uc hr
  have hsz : Qk ks ≤ n := by simp only [X.size] at h; omega
  have hkr := ((Ys _).1 hr).1
  simp only [X.k] at hk
  simp only [X.ks] at hkr
  rw [Zs] at h0
  rcases hk with rfl | rfl | rfl | rfl | rfl | rfl
  ·simp at h0
  ·exact Nat.le_refl 1
  ·simp at h0
  ·rw [if_neg (by decide),if_pos rfl,QdH,List.all_eq_true] at h0
   rw [Nu]
   have key : ∀ l : List X,(∀ y ∈ l,1 ≤ (mX y).v 0) → 1 ≤ (mC l).v 0 := by
    intro l
    induction l with
    | nil => intro _; exact Nat.le_refl 1
    | cons y l ih =>
     intro hl
     exact Nat.mul_le_mul (hl y List.mem_cons_self) (ih fun z hz => hl z (List.mem_cons_of_mem _ hz))
   exact key ks fun y hy => Lu n y (Nat.le_trans (Yv hy) hsz) (hkr y hy) (h0 y hy)
  ·rw [if_neg (by decide),if_neg (by decide),if_pos rfl,QdE,List.any_eq_true] at h0
   obtain ⟨y,hy,hn⟩ := h0
   rw [Rm]
   exact Nat.le_trans (Lu n y (Nat.le_trans (Yv hy) hsz) (hkr y hy) hn) (Cc.1 (Nat.le_refl _) y hy)
  ·obtain ⟨a,rfl,_⟩ := Nm hr
   exact Nat.le_refl 1
theorem Qik {N : Nat} {A B D E : Me} (hD : Me.le N D (A.sh.cat B)) (ht : 1 ≤ A.t 0) (hE : Me.le N E B.sh) (hv : 1 ≤ A.v 0 ∨ E = Me.zero) : Me.le N (D.or E) (A.cat B).sh := by
 have hm : B.p ≤ B.p * A.t 0 := Nat.le_mul_of_pos_right _ ht
 have hE' : ∀ (f : Me → Nat → Nat),(∀ n,f Me.zero n = 0) → ∀ n,f E n ≤ f B.sh n → f E n ≤ A.v 0 * f B.sh n := fun f hf n h => by
  rcases hv with hv | rfl
  ·exact Nat.le_trans h (Nat.le_mul_of_pos_left _ hv)
  ·rw [hf]; exact Nat.zero_le _
 have hEp : E.p ≤ A.v 0 * B.s 0 := by
  have h := hE.p
  rcases hv with hv | rfl
  ·exact Nat.le_trans h (Nat.le_mul_of_pos_left _ hv)
  ·exact Nat.zero_le _
 refine ⟨?_,fun n hn => ?_,fun n hn => ?_,fun n hn => ?_⟩
 ·have h1 := hD.p
  simp only [Me.or,Me.sh,Me.cat,conv] at h1 ⊢
  omega
 ·have h1 := hD.t n hn
  have h2 := hE' (fun M => M.t) (fun _ => rfl) n (hE.t n hn)
  simp only [Me.or,Me.sh,Me.cat,VS] at h1 h2 ⊢
  omega
 ·have h1 := hD.s n hn
  have h2 := hE' (fun M => M.s) (fun _ => rfl) n (hE.s n hn)
  simp only [Me.or,Me.sh,Me.cat,VS] at h1 h2 ⊢
  omega
 ·have h1 := hD.v n hn
  have h2 := hE' (fun M => M.v) (fun _ => rfl) n (hE.v n hn)
  simp only [Me.or,Me.sh,Me.cat,VS] at h1 h2 ⊢
  omega
theorem Xp {b : Int} {N : Nat} : ∀ {l : List X},(∀ x ∈ l,Rt x ∧ x.k ≠ 0 ∧ x.k ≠ 1 ∧ Me.le N (mX (Qo b x)) (mX x).sh) → Me.le N (mE (Zu b l)) (mC l).sh
 | [],_ => zero_le _ _
 | x :: l,h => by
  obtain ⟨hr,h0,h1,hd⟩ := h x List.mem_cons_self
  have ih := Xp (b := b) (N := N) fun y hy => h y (List.mem_cons_of_mem _ hy)
  have hc := CZ (l := Qo b x :: l) (by simp) (fun y hy => by
   rcases List.mem_cons.1 hy with rfl | hy
   ·exact Ve b hr
   ·exact (h y (List.mem_cons_of_mem _ hy)).1) N
  rw [mC] at hc
  rw [Zu,mE,mC]
  refine Qik (hc.trans (Me.cat_le hd (Me.le.refl _ _))) (Qre _ x (Nat.le_refl _) hr h0 h1) ?_ ?_
  ·split
   ·exact ih
   ·exact zero_le _ _
  ·split
   ·rename_i hn; exact .inl (Lu _ x (Nat.le_refl _) hr hn)
   ·exact .inr rfl
theorem D4 {b : Int} {N : Nat} : ∀ {l : List X},(∀ x ∈ l,Me.le N (mX (Qo b x)) (mX x).sh) → Me.le N (mE (Zf b l)) (mE l).sh
 | [],_ => zero_le _ _
 | x :: l,h => Me.or_le (h x List.mem_cons_self) (D4 fun y hy => h y (List.mem_cons_of_mem _ hy))
theorem Bw (b : Int) (N : Nat) : ∀ (n : Nat) (x : X),x.size ≤ n → Rt x → Me.le N (mX (Qo b x)) (mX x).sh
 | 0,x,h,_ => by have := Yl x; omega
 | n + 1,.mk k s ks,h,hr => by
  have hk := Uc hr
  have hsz : Qk ks ≤ n := by simp only [X.size] at h; omega
  have hkr := ((Ys _).1 hr).1
  simp only [X.k] at hk
  simp only [X.ks] at hkr
  have hd : ∀ y ∈ ks,Me.le N (mX (Qo b y)) (mX y).sh := fun y hy => Bw b N n y (Nat.le_trans (Yv hy) hsz) (hkr y hy)
  rcases hk with rfl | rfl | rfl | rfl | rfl | rfl
  ·exact zero_le _ _
  ·exact zero_le _ _
  ·rw [EY,Qk0]
   split
   ·exact ⟨Nat.le_refl 1,fun _ _ => Nat.zero_le _,fun _ _ => Nat.zero_le _,fun n _ => by
     show dl n ≤ if n + 1 = 1 then 1 else 0
     cases n <;> simp [dl]⟩
   ·exact zero_le _ _
  ·rw [Qrh,Nu]
   refine (AL _ N).trans (Xp fun y hy => ?_)
   obtain ⟨a,b,c,d⟩ := Rp hr rfl y hy
   exact ⟨a,c,d,hd y hy⟩
  ·rw [CY,Rm]
   exact (AL _ N).trans (D4 hd)
  ·obtain ⟨a,rfl,hs,ha,_⟩ := Nm hr
   rw [Cs,F3,Me.star_sh]
   have hc := CZ (l := [Qo b a,.mk 5 s [a]]) (by simp) (fun y hy => by
    simp only [List.mem_cons,List.not_mem_nil,or_false] at hy
    rcases hy with rfl | rfl
    ·exact Ve b ha
    ·exact hr) N
   rw [mC,mC,mC,Me.cat_e,F3] at hc
   exact hc.trans (Me.cat_le (hd a (by simp)) (Me.le.refl _ _))
theorem FT : ∀ (n : Nat) (x : X),x.size ≤ n → Rt x → x.k ≠ 0 → x.size + 2 ≤ 3 * (mX x).p
 | 0,x,h,_,_ => by have := Yl x; omega
 | n + 1,.mk k s ks,h,hr,h0 => by
  have hk := Uc hr
  have hsz : Qk ks ≤ n := by simp only [X.size] at h; omega
  have hkr := ((Ys _).1 hr).1
  simp only [X.k] at hk h0
  simp only [X.ks] at hkr
  have hd : ∀ y ∈ ks,y.k ≠ 0 → y.size + 2 ≤ 3 * (mX y).p := fun y hy h0 => FT n y (Nat.le_trans (Yv hy) hsz) (hkr y hy) h0
  rcases hk with rfl | rfl | rfl | rfl | rfl | rfl
  ·exact absurd rfl h0
  ·have e := Fi hr (.inl rfl)
   injection e with e1 e2 e3
   subst e3
   exact Nat.le_refl 3
  ·have e : ks = [] := (QkQ hr rfl).1
   subst e
   exact Nat.le_refl 3
  ·have hl := Xk hr
   rw [Nu]
   have key : ∀ l : List X,(∀ y ∈ l,y.size + 2 ≤ 3 * (mX y).p) → Qk l + 2 * l.length ≤ 3 * (mC l).p := by
    intro l
    induction l with
    | nil => intro _; exact Nat.zero_le _
    | cons y l ih =>
     intro hl
     have h1 := hl y List.mem_cons_self
     have h2 := ih fun z hz => hl z (List.mem_cons_of_mem _ hz)
     rw [mC]
     simp only [Qk,List.length_cons,Me.cat]
     omega
   have := key ks fun y hy => hd y hy (Rp hr rfl y hy).2.2.1
   simp only [X.size]
   omega
  ·obtain ⟨hl,hb⟩ := Tj hr
   rw [Rm]
   have key : ∀ l : List X,(∀ y ∈ l,y.size + 2 ≤ 3 * (mX y).p) → Qk l + 2 * l.length ≤ 3 * (mE l).p := by
    intro l
    induction l with
    | nil => intro _; exact Nat.zero_le _
    | cons y l ih =>
     intro hl
     have h1 := hl y List.mem_cons_self
     have h2 := ih fun z hz => hl z (List.mem_cons_of_mem _ hz)
     rw [mE]
     simp only [Qk,List.length_cons,Me.or]
     omega
   have := key ks fun y hy => hd y hy fun e => by
    rw [← hb] at hy
    rcases Kl hy with ⟨h3,_⟩ | ⟨_,h3,_⟩
    ·rw [h3] at e; exact absurd (show (2 : Int) = 0 from e) (by decide)
    ·exact h3 e
   simp only [X.size]
   omega
  ·obtain ⟨a,rfl,hs,ha,h0,_⟩ := Nm hr
   have := hd a (by simp) h0
   rw [F3]
   simp only [X.size,Qk,Me.star]
   omega
theorem Mf {x : X} (hr : Rt x) : x.size ≤ 3 * (mX x).p + 1 := by
 by_cases h : x.k = 0
 ·rw [Fi hr (.inr h)]
  simp only [X.size,Qk]; omega
 ·have := FT _ x (Nat.le_refl _) hr h
  omega
theorem QaI {l : List X} (h : ∀ x ∈ l,Rt x) : Qk l ≤ 3 * (mE l).p + l.length := by
 induction l with
 | nil => exact Nat.zero_le _
 | cons y l ih =>
  have h1 := Mf (h y List.mem_cons_self)
  have h2 := ih fun z hz => h z (List.mem_cons_of_mem _ hz)
  rw [mE]
  simp only [Qk,List.length_cons,Me.or]
  omega
theorem Qhx {l : List X} (h : ∀ x ∈ l,Rt x ∧ x.k ≠ 0) : Qk l + 2 * l.length ≤ 3 * (mC l).p := by
 induction l with
 | nil => exact Nat.zero_le _
 | cons y l ih =>
  have h1 := FT _ y (Nat.le_refl _) (h y List.mem_cons_self).1 (h y List.mem_cons_self).2
  have h2 := ih fun z hz => h z (List.mem_cons_of_mem _ hz)
  rw [mC]
  simp only [Qk,List.length_cons,Me.cat]
  omega
theorem Qb8 (b : Int) : ∀ l : List X,(Zu b l).length ≤ l.length
 | [] => Nat.le_refl _
 | x :: l => by
  have := Qb8 b l
  rw [Zu]
  split <;> simp <;> omega
theorem Bo (b : Int) : ∀ l : List X,(Zf b l).length = l.length
 | [] => rfl
 | x :: l => by rw [Zf,List.length_cons,List.length_cons,Bo b l]
theorem QaR {b : Int} : ∀ {l : List X},(∀ x ∈ l,Rt x ∧ x.k ≠ 0 ∧ x.k ≠ 1 ∧ (3 * (mX x).s 0 + 8 * (mX x).p + 10 ≤ LIM → Gd b x)) → 3 * (mC l).s 0 + 8 * (mC l).p + 10 ≤ LIM → GdW b l
 | [],_,_ => trivial
 | x :: l,h,hl => by
  obtain ⟨hr,h0,h1,hg⟩ := h x List.mem_cons_self
  have hm := Qre _ x (Nat.le_refl _) hr h0 h1
  have hm' : (mC l).p ≤ (mC l).p * (mX x).t 0 := Nat.le_mul_of_pos_right _ hm
  rw [mC] at hl
  simp only [Me.cat,conv] at hl
  have hd := (Bw b 1 _ x (Nat.le_refl _) hr).p
  have hs := Mf (Ve b hr)
  have hls := Qhx fun y hy => ⟨(h y (List.mem_cons_of_mem _ hy)).1,(h y (List.mem_cons_of_mem _ hy)).2.1⟩
  simp only [Me.sh] at hd
  rw [GdW]
  refine ⟨hg (by omega),by omega,fun hn => QaR (fun y hy => h y (List.mem_cons_of_mem _ hy)) ?_⟩
  have hv := Lu _ x (Nat.le_refl _) hr hn
  have : (mC l).s 0 ≤ (mX x).v 0 * (mC l).s 0 := Nat.le_mul_of_pos_left _ hv
  omega
theorem QcB {b : Int} : ∀ {l : List X},(∀ x ∈ l,(3 * (mX x).s 0 + 8 * (mX x).p + 10 ≤ LIM → Gd b x)) → 3 * (mE l).s 0 + 8 * (mE l).p + 10 ≤ LIM → GdA b l
 | [],_,_ => trivial
 | x :: l,h,hl => by
  rw [mE] at hl
  simp only [Me.or] at hl
  rw [GdA]
  exact ⟨h x List.mem_cons_self (by omega),QcB (fun y hy => h y (List.mem_cons_of_mem _ hy)) (by omega)⟩
theorem Qf5 (b : Int) : ∀ (n : Nat) (x : X),x.size ≤ n → Rt x → 3 * (mX x).s 0 + 8 * (mX x).p + 10 ≤ LIM → Gd b x
 | 0,x,h,_,_ => by have := Yl x; omega
 | n + 1,.mk k s ks,h,hr,hl => by
  have hk := Uc hr
  have hsz : Qk ks ≤ n := by simp only [X.size] at h; omega
  have hkr := ((Ys _).1 hr).1
  simp only [X.k] at hk
  simp only [X.ks] at hkr
  have hd : ∀ y ∈ ks,3 * (mX y).s 0 + 8 * (mX y).p + 10 ≤ LIM → Gd b y := fun y hy => Qf5 b n y (Nat.le_trans (Yv hy) hsz) (hkr y hy)
  have hlen := Yq ks
  rcases hk with rfl | rfl | rfl | rfl | rfl | rfl
  ·simp [Gd]
  ·simp [Gd]
  ·simp [Gd]
  ·rw [Nu] at hl
   have hc := fun y hy => Rp hr rfl y hy
   simp only [X.ks] at hc
   have hw := (Xp (b := b) (N := 1) fun y hy => ⟨(hc y hy).1,(hc y hy).2.2.1,(hc y hy).2.2.2,Bw b 1 _ y (Nat.le_refl _) (hc y hy).1⟩).p
   have hz := QaI (CX b hkr)
   have hwl := Qb8 b ks
   have hcs := Qhx fun y hy => ⟨(hc y hy).1,(hc y hy).2.2.1⟩
   simp only [Me.sh] at hw
   rw [Gd,if_pos rfl]
   exact ⟨by omega,QaR (fun y hy => ⟨(hc y hy).1,(hc y hy).2.2.1,(hc y hy).2.2.2,hd y hy⟩) hl⟩
  ·rw [Rm] at hl
   have hw := (D4 (b := b) (N := 1) fun y hy => Bw b 1 _ y (Nat.le_refl _) (hkr y hy)).p
   have hz := QaI (Ew b hkr)
   have hdl := Bo b ks
   have hcs := FT _ _ (Nat.le_refl _) hr (by simp [X.k])
   rw [Rm] at hcs
   simp only [X.size] at hcs
   simp only [Me.sh] at hw
   rw [Gd,if_neg (by decide),if_pos rfl]
   exact ⟨by omega,QcB hd hl⟩
  ·obtain ⟨a,rfl,hs,ha,h0,_⟩ := Nm hr
   have hsz1 := Mf hr
   rw [F3] at hl hsz1
   have hst : (mX a).star.s 0 = (mX a).s 0 + ((mX a).p + 1) := rfl
   have hp : (mX a).star.p = (mX a).p + 1 := rfl
   have hdm := (Bw b 1 _ a (Nat.le_refl _) ha).p
   have hds := Mf (Ve b ha)
   simp only [Me.sh] at hdm
   rw [Gd,if_neg (by decide),if_neg (by decide),if_pos rfl,GdS]
   exact fun _ => ⟨hd a (by simp) (by omega),by omega⟩
def Fin : Nat → Me → Prop
 | 0,A => 3 * A.p + 1 ≤ LIM
 | m + 1,A => 3 * A.s 0 + 8 * A.p + 10 ≤ LIM ∧ Fin m A.sh
theorem Fin.mono : ∀ {m N : Nat} {A B : Me},m ≤ N → Me.le N A B → Fin m B → Fin m A
 | 0,N,A,B,_,h,hf => by have := h.p; simp only [Fin] at hf ⊢; omega
 | m + 1,0,A,B,hm,h,hf => by omega
 | m + 1,N + 1,A,B,hm,h,hf => by
  have h1 := h.p
  have h2 := h.s 0 (by omega)
  exact ⟨by have := hf.1; omega,Fin.mono (by omega) (Me.sh_le h) hf.2⟩
theorem Fin.size {m : Nat} {x : X} (hr : Rt x) (h : Fin m (mX x)) : x.size ≤ LIM := by
 have := Mf hr
 cases m with
 | zero => simp only [Fin] at h; omega
 | succ m => have := h.1; omega
theorem Fin.deriv {m : Nat} {x : X} (hr : Rt x) (h : Fin (m + 1) (mX x)) (b : Int) : Gd b x ∧ Rt (Qo b x) ∧ Fin m (mX (Qo b x)) :=
 ⟨Qf5 b _ x (Nat.le_refl _) hr h.1,Ve b hr,Fin.mono (Nat.le_refl m) (Bw b m _ x (Nat.le_refl _) hr) h.2⟩
theorem Fin.less : ∀ {m : Nat} {A : Me},Fin (m + 1) A → Fin m A
 | 0,A,h => by have := h.1; simp only [Fin]; omega
 | m + 1,A,h => ⟨h.1,Fin.less h.2⟩
def Me.sup (A B : Me) : Me := ⟨max A.p B.p,fun n => max (A.t n) (B.t n),fun n => max (A.s n) (B.s n),fun n => max (A.v n) (B.v n)⟩
theorem Me.le_sup_left (N : Nat) (A B : Me) : Me.le N A (A.sup B) := ⟨Nat.le_max_left _ _,fun _ _ => Nat.le_max_left _ _,fun _ _ => Nat.le_max_left _ _,fun _ _ => Nat.le_max_left _ _⟩
theorem Me.le_sup_right (N : Nat) (A B : Me) : Me.le N B (A.sup B) := ⟨Nat.le_max_right _ _,fun _ _ => Nat.le_max_right _ _,fun _ _ => Nat.le_max_right _ _,fun _ _ => Nat.le_max_right _ _⟩
def PT (p : Nat) (t s v : List Nat) : Me := ⟨p,fun n => t.getD n 0,fun n => s.getD n 0,fun n => v.getD n 0⟩
theorem le7 {A B : Me} (h : A.p ≤ B.p ∧ ∀ n,n < 7 → A.t n ≤ B.t n ∧ A.s n ≤ B.s n ∧ A.v n ≤ B.v n) : Me.le 7 A B := ⟨h.1,fun n hn => (h.2 n hn).1,fun n hn => (h.2 n hn).2.1,fun n hn => (h.2 n hn).2.2⟩
def MR : Me := PT 3 [1,1,1,1,1,1,1] [3,3,3,3,3,3,3] [1,1,1,1,1,1,1]
def Qmw : Me := PT 9 [3,6,10,15,21,32,64] [18,30,45,63,112,224,448] [1,3,6,10,15,21,32]
def Qoh : Me := PT 27 [9,45,165,495,1287,4890,23728] [135,495,1485,4042,19618,95198,461885] [1,9,45,165,495,1716,8322]
def C8 : Me := PT 81 [27,378,3654,27405,169911,1704888,23035546] [1134,10962,82215,571729,7723240,104345951,1410013161] [1,27,378,3654,27405,310515,4196301]
theorem Me.sup_le {N : Nat} {A B C : Me} (h : Me.le N A C) (g : Me.le N B C) : Me.le N (A.sup B) C := ⟨Nat.max_le.2 ⟨h.p,g.p⟩,fun n hn => Nat.max_le.2 ⟨h.t n hn,g.t n hn⟩,fun n hn => Nat.max_le.2 ⟨h.s n hn,g.s n hn⟩,fun n hn => Nat.max_le.2 ⟨h.v n hn,g.v n hn⟩⟩
def U7 : Nat → Me
 | 0 => MR
 | d + 1 => (U7 d).star.sup (((U7 d).cat ((U7 d).cat (U7 d))).sup ((U7 d).or ((U7 d).or (U7 d))))
theorem QbN (d N : Nat) : Me.le N ((U7 d).or ((U7 d).or (U7 d))) (U7 (d + 1)) := (Me.le_sup_right N _ _).trans (Me.le_sup_right N _ _)
theorem Qkr (d N : Nat) : Me.le N ((U7 d).cat ((U7 d).cat (U7 d))) (U7 (d + 1)) := (Me.le_sup_left N _ _).trans (Me.le_sup_right N _ _)
theorem QmA (d N : Nat) : Me.le N (U7 d).star (U7 (d + 1)) := Me.le_sup_left N _ _
theorem Dn (d N : Nat) : Me.le N (U7 d) (U7 (d + 1)) := (Me.le_or_left N _ _).trans (QbN d N)
theorem AC : ∀ d,Me.le 7 Me.emp (U7 d)
 | 0 => le7 (by decide +kernel)
 | d + 1 => (AC d).trans (Dn d 7)
theorem QaZ : ∀ d,Me.le 7 Me.byte (U7 d)
 | 0 => le7 (by decide +kernel)
 | d + 1 => (QaZ d).trans (Dn d 7)
theorem u_e (d : Nat) : Me.le 7 Me.e (U7 d) := (QbR 7).trans (AC d)
def BU : Nat → X → Prop
 | 0,x => mX x = Me.byte ∨ mX x = Me.emp ∨ mX x = Me.zero
 | d + 1,x => Me.le 7 (mX x) (U7 d)
theorem BU.emp : ∀ {d : Nat} {x : X},mX x = Me.emp → BU d x
 | 0,x,h => .inr (.inl h)
 | d + 1,x,h => by show Me.le 7 (mX x) (U7 d); rw [h]; exact AC d
theorem BU.byte : ∀ {d : Nat} {x : X},mX x = Me.byte → BU d x
 | 0,x,h => .inl h
 | d + 1,x,h => by show Me.le 7 (mX x) (U7 d); rw [h]; exact QaZ d
theorem BU.zero : ∀ {d : Nat} {x : X},mX x = Me.zero → BU d x
 | 0,x,h => .inr (.inr h)
 | d + 1,x,h => by show Me.le 7 (mX x) (U7 d); rw [h]; exact zero_le _ _
theorem Qod : ∀ {d : Nat} {x : X},Rt x → BU d x → BU (d + 1) (Jh x)
 | d,.mk k s ks,hr,h => by
  rw [UH]
  split
  ·exact BU.emp rfl
  ·split
   ·rename_i h01 h5
    match d,h with
    | 0,h =>
     rcases h with h | h | h
     ·exact BU.byte h
     ·exact BU.emp h
     ·exact BU.zero h
    | d + 1,h => exact Me.le.trans h (Dn d 7)
   ·match d,h with
    | 0,h =>
     show Me.le 7 (mX (.mk k s ks)).star MR
     rcases h with h | h | h <;> rw [h] <;> exact le7 (by decide +kernel)
    | d + 1,h => exact (Me.star_le h).trans (QmA d 7)
theorem Qps : ∀ {d : Nat} {l : List X},l ≠ [] → l.length ≤ 3 → (∀ x ∈ l,Rt x ∧ BU d x) → BU (d + 1) (Q8 l) := fun {d l} hn hl h => by
 refine (CZ hn (fun x hx => (h x hx).1) 7).trans ?_
 match d,h with
 | 0,h =>
  show Me.le 7 (mC l) MR
  match l,hn,hl,h with
  | [a],_,_,h =>
   have h1 := (h a (by simp)).2
   simp only [BU] at h1
   simp only [mC]
   rcases h1 with e1 | e1 | e1 <;> rw [e1] <;> exact le7 (by decide +kernel)
  | [a,b],_,_,h =>
   have h1 := (h a (by simp)).2
   have h2 := (h b (by simp)).2
   simp only [BU] at h1 h2
   simp only [mC]
   rcases h1 with e1 | e1 | e1 <;> rw [e1] <;> rcases h2 with e2 | e2 | e2 <;> rw [e2] <;> exact le7 (by decide +kernel)
  | [a,b,c],_,_,h =>
   have h1 := (h a (by simp)).2
   have h2 := (h b (by simp)).2
   have h3 := (h c (by simp)).2
   simp only [BU] at h1 h2 h3
   simp only [mC]
   rcases h1 with e1 | e1 | e1 <;> rw [e1] <;> rcases h2 with e2 | e2 | e2 <;> rw [e2] <;> rcases h3 with e3 | e3 | e3 <;> rw [e3] <;> exact le7 (by decide +kernel)
 | d + 1,h =>
  refine Me.le.trans ?_ (Qkr d 7)
  match l,hn,hl,h with
  | [a],_,_,h =>
   have := Me.cat_le (h a (by simp)).2 (Me.cat_le (u_e d) (u_e d))
   rw [Me.cat_e] at this
   exact this
  | [a,b],_,_,h => exact Me.cat_le (h a (by simp)).2 (Me.cat_le (h b (by simp)).2 (u_e d))
  | [a,b,c],_,_,h =>
   refine Me.cat_le (h a (by simp)).2 (Me.cat_le (h b (by simp)).2 ?_)
   rw [mC,mC,Me.cat_e]
   exact (h c (by simp)).2
theorem QnB : ∀ {d : Nat} {l : List X},l.length ≤ 3 → (∀ x ∈ l,BU d x) → BU (d + 1) (Ze l) := fun {d l} hl h => by
 refine (AL l 7).trans ?_
 match d,h with
 | 0,h =>
  show Me.le 7 (mE l) MR
  match l,hl,h with
  | [],_,_ => exact zero_le _ _
  | [a],_,h =>
   have h1 := h a (by simp)
   simp only [BU] at h1
   simp only [mE]
   rcases h1 with e1 | e1 | e1 <;> rw [e1] <;> exact le7 (by decide +kernel)
  | [a,b],_,h =>
   have h1 := h a (by simp)
   have h2 := h b (by simp)
   simp only [BU] at h1 h2
   simp only [mE]
   rcases h1 with e1 | e1 | e1 <;> rw [e1] <;> rcases h2 with e2 | e2 | e2 <;> rw [e2] <;> exact le7 (by decide +kernel)
  | [a,b,c],_,h =>
   have h1 := h a (by simp)
   have h2 := h b (by simp)
   have h3 := h c (by simp)
   simp only [BU] at h1 h2 h3
   simp only [mE]
   rcases h1 with e1 | e1 | e1 <;> rw [e1] <;> rcases h2 with e2 | e2 | e2 <;> rw [e2] <;> rcases h3 with e3 | e3 | e3 <;> rw [e3] <;> exact le7 (by decide +kernel)
 | d + 1,h =>
  refine Me.le.trans ?_ (QbN d 7)
  match l,hl,h with
  | [],_,_ => exact zero_le _ _
  | [a],_,h => exact Me.or_le (h a (by simp)) (zero_le _ _)
  | [a,b],_,h => exact Me.or_le (h a (by simp)) (Me.or_le (h b (by simp)) (zero_le _ _))
  | [a,b,c],_,h =>
   refine Me.or_le (h a (by simp)) (Me.or_le (h b (by simp)) ?_)
   rw [mE,mE,Me.or_zero]
   exact h c (by simp)
theorem AU {d N : Nat} {T T' : Me} (h : Me.le N (U7 d) T) (a : Me.le N T.star T') (b : Me.le N (T.cat (T.cat T)) T') (c : Me.le N (T.or (T.or T)) T') : Me.le N (U7 (d + 1)) T' :=
 Me.sup_le ((Me.star_le h).trans a) (Me.sup_le ((Me.cat_le h (Me.cat_le h h)).trans b) ((Me.or_le h (Me.or_le h h)).trans c))
theorem u_0 : Me.le 7 (U7 0) MR := Me.le.refl _ _
theorem u_1 : Me.le 7 (U7 1) Qmw := AU u_0 (le7 (by decide +kernel)) (le7 (by decide +kernel)) (le7 (by decide +kernel))
theorem u_2 : Me.le 7 (U7 2) Qoh := AU u_1 (le7 (by decide +kernel)) (le7 (by decide +kernel)) (le7 (by decide +kernel))
theorem u_3 : Me.le 7 (U7 3) C8 := AU u_2 (le7 (by decide +kernel)) (le7 (by decide +kernel)) (le7 (by decide +kernel))
instance decFin : ∀ (m : Nat) (A : Me),Decidable (Fin m A)
 | 0,A => inferInstanceAs (Decidable (3 * A.p + 1 ≤ LIM))
 | m + 1,A => @instDecidableAnd _ _ _ (decFin m A.sh)
theorem Qln : Fin 6 C8 := by decide +kernel
theorem Qh4 {x : X} (h : BU 4 x) : Me.le 7 (mX x) C8 := Me.le.trans h u_3
end Go.X7
end
