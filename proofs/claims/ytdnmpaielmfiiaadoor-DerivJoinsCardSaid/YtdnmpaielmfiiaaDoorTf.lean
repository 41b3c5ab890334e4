/- Tf: a part of the proof that each law of this seat answers true at every input. No condition. -/
import Derived.Test.YtdnmpaielmfiiaaDoorTe
import Derived.Test.YtdnmpaielmfiiaaDoorXc
set_option linter.unusedVariables false
set_option linter.unusedSimpArgs false
set_option maxRecDepth 20000
section
namespace Go.Proofs.YtdnmpaielmfiiaaDoor
open Go Go.Ev Go.X7 Go.Srt
set_option maxRecDepth 20000
abbrev bL (l : List Bool) : List V := l.map V.bool
abbrev Qrn (l : List Bool) : Blk := .row 0 1 false (bL l)
theorem Qua (l : List Bool) : flat (bL l) = bL l := by
 induction l with
 | nil => rfl
 | cons b l ih => show [V.bool b] ++ flat (bL l) = _; rw [ih]; rfl
theorem Qtb (l : List Bool) : Yz 1 (bL l) = true := by
 induction l with
 | nil => rfl
 | cons b l ih => show ((V.bool b).cells.length == 1 && Yz 1 (bL l)) = true; rw [ih]; rfl
theorem QsR (l : List Bool) : Qv (bL l) = true := by
 induction l with
 | nil => rfl
 | cons b l ih => show ((V.bool b).scal && Qv (bL l)) = true; rw [ih]; rfl
theorem QtJ (l : List Bool) : QX (bL l) = 0 := by
 induction l with
 | nil => rfl
 | cons b l ih => show max (V.bool b).maxRef (QX (bL l)) = 0; rw [ih]; rfl
theorem Qtt (l : List Bool) : Q1 (bL l) = true := by
 induction l with
 | nil => rfl
 | cons b l ih => show ((V.bool b).clean && Q1 (bL l)) = true; rw [ih]; rfl
theorem Qrt (l : List Bool) : (bL l).length = l.length := by simp
theorem QtP (m : Nat) : Q7 m [V.bool false] = bL (List.replicate m false) := by
 induction m with
 | zero => rfl
 | succ m ih => rw [Q7,ih]; rfl
inductive AtV (G : Qa) : V → List Bool → Prop
 | vs (l : List Bool) : AtV G (.vs (bL l)) l
 | rs (i : Nat) (l : List Bool) (h : Qh G i = some (Qrn l)) : AtV G (.rs i 0 1 0 l.length) l
theorem AtV.up {H G : Qa} {v : V} {l : List Bool} (h : AtV H v l) (hU : Up H G) : AtV G v l := by
 cases h with
 | vs l => exact .vs l
 | rs i l h => exact .rs i l (by rw [hU.get (Q4 h)]; exact h)
theorem AtV.load {G : Qa} {v : V} {l : List Bool} (h : AtV G v l) {j : Nat} (hj : j < l.length) : ∃ p,Qx 1 v (.int .i64 (j : Int)) = some p ∧ Qc false 1 G p = some (.bool l[j]) := by
 cases h with
 | vs l => exact ⟨.fptr [.bool l[j]],GZ (y := .bool l[j]) (by simp [hj]) rfl,by rw [Qfh]; rfl⟩
 | rs i l h =>
  refine ⟨_,V5 hj,?_⟩
  rw [Qj,h,Qcy,Nat.zero_add,Nat.mul_one,List.drop_eq_getElem_cons (by simpa using hj)]
  simp
theorem AtV.copy {G : Qa} {v : V} {l o : List Bool} {t O : Nat} (h : AtV G v l) (hg : Qh G t = some (Qrn o)) (hl : o.length = l.length) (hb : O ≤ t) (h0 : 0 < l.length) :
  Qd7 O 1 (.rs t 0 1 0 l.length) v G = some (.int .i64 (l.length : Int),Qn G t (Qrn l)) := by
 have hfit : fits O t 0 = true := by simp [fits,hb]
 have hc : ZM 1 G v = some (bL l) ∧ ZB v = some l.length := by
  cases h with
  | vs l => exact ⟨by simp only [ZM,Qtb,if_true,Qua],by simp [ZB]⟩
  | rs i l h => exact ⟨by simp [ZM,h,List.take_of_length_le],rfl⟩
 have hsp : splice (bL o) 0 (bL l) = bL l := by simp [splice,hl]
 have htk : (bL l).take (l.length * 1) = bL l := List.take_of_length_le (by simp)
 have hm : min l.length l.length = l.length := Nat.min_self _
 have hne : ¬ l.length = 0 := by omega
 have hlen : (bL l).length ≤ (bL o).length := by simp [hl]
 rw [PZ]
 simp only [EA,hc.1,hc.2,Option.bind_some,copyV,if_true,hm,hne,if_false,VT,htk,QsR,QtJ,hfit,and_self,hg,Nat.zero_mul,Nat.zero_add,hlen,hsp,Option.map_some]
theorem QrW {G : Qa} {o : List Bool} {t O j : Nat} (hg : Qh G t = some (Qrn o)) (hb : O ≤ t) (hj : j < o.length) (b : Bool) :
  Qs O 1 G (.ptr t 0 (j * 1)) (.bool b) = some (.tup [],Qn G t (Qrn (o.set j b))) := by
 have hfit : fits O t 0 = true := by simp [fits,hb]
 have hsp : splice (bL o) j [V.bool b] = bL (o.set j b) := by
  unfold splice
  rw [show bL (o.set j b) = (bL o).set j (.bool b) by simp only [bL,List.map_set]]
  rw [List.set_eq_take_append_cons_drop,if_pos (by simpa using hj)]
  simp
 have hle : j + 1 ≤ (bL o).length := by simp; omega
 rw [Rq]
 simp only [Mb,Rx,Qao,Qv,Qgp,Bool.and_self,List.length_cons,List.length_nil,Qdf,hfit,and_self,if_true,hg,Nat.mul_one,hle,hsp,Option.map_some]
theorem QrS {t n j : Nat} (h : j < n) : Qx 1 (.rs t 0 1 0 n) (.int .i64 (j : Int)) = some (.ptr t 0 (j * 1)) := by
 have := V5 (sz := 1) (i := t) (ver := 0) (off := 0) (k := .i64) h
 rwa [Nat.zero_add] at this
abbrev HB (H : Qa) (x : X) (o : List Bool) : Qa := Qrn o :: .var (Qd x).cells :: H
theorem Qro (H : Qa) (x : X) (o : List Bool) : Qh (HB H x o) (H.length + 1) = some (Qrn o) := ZR (Qrn o) (.var (Qd x).cells :: H)
theorem QrK (H : Qa) (x : X) (o : List Bool) : Up H (HB H x o) := ((Up.refl H).cons _).cons _
theorem QrI (H : Qa) (x : X) (o p : List Bool) : Qn (HB H x o) (H.length + 1) (Qrn p) = HB H x p := by
 show Qn (Qrn o :: (.var (Qd x).cells :: H)) ((.var (Qd x).cells :: H : Qa).length) (Qrn p) = _
 simp [Qn]
theorem QrD {H : Qa} {x : X} {o : List Bool} {n : Nat} (hn : o.length = n) : rt false H.length (.rs (H.length + 1) 0 1 0 n) (HB H x o) = some (.ret (.vs (bL o)),H) := by
 subst hn
 have hf : frz (HB H x o) H.length depth (.rs (H.length + 1) 0 1 0 o.length) = some (.vs (bL o)) := by
  have := frz_row (H := HB H x o) (O := H.length) (n := depth - 1) (len := o.length) (Qro H x o) (by omega) (by simp) (by omega) (fun c hc => by
   obtain ⟨b,_,rfl⟩ := List.mem_map.1 hc
   rfl) (Qtt o) (QsR o) (.inr rfl)
  have e : chunk 1 false o.length (bL o) = bL o := by
   have := QsO (l := bL o)
   rwa [Qrt] at this
  rw [e] at this
  exact this
 rw [Qgh,hf,Qga]
 simp
abbrev mk (l : List Bool) (i : Nat) : Prop := l[i]? = some true
theorem QrZ {o : List Bool} {i : Nat} (hi : i < o.length) (b : Bool) (j : Nat) : mk (o.set i b) j ↔ if j = i then b = true else mk o j := by
 unfold mk
 rw [List.getElem?_set]
 by_cases h : i = j
 ·subst h; simp [hi]
 ·rw [if_neg h,if_neg (fun e => h e.symm)]
theorem Qta {t : List UInt8} {i : Nat} (h : i < t.length) : KE (.str t) (.int .i64 (i : Int)) = some (.int .u8 (t[i].toNat : Int)) := by
 rw [Rc]
 simp [Mu,ZY,h]
theorem QtB {H : Qa} {s : Bs} {S : S4} {ks : List X} (hs : S.ok) {v : V} {a : List Bool} (ha : AtV H v a) (hal : a.length = s.length + 1) (hn : s.length ≤ 1000) : ∀ (m i : Nat),s.length - i = m → i ≤ s.length → ∀ o : List Bool,o.length = s.length + 1 →
   (∀ j,j ≤ s.length → (mk o j ↔ ∃ i' c,j = i' + 1 ∧ i' < i ∧ s[i']? = some c ∧ mk a i' ∧ S.has c.toNat = true)) →
  ∃ r : List Bool,r.length = s.length + 1 ∧ (∀ j,j ≤ s.length → (mk r j ↔ ∃ i' c,j = i' + 1 ∧ s[i']? = some c ∧ mk a i' ∧ S.has c.toNat = true)) ∧
   QrL H.length (.str s) v (.ptr H.length 0 0) (.rs (H.length + 1) 0 1 0 (s.length + 1)) (.int .i64 (i : Int)) (HB H (.mk 2 S ks) o) = some (.ret (.vs (bL r)),H) := by
 intro m
 induction m with
 | zero =>
  intro i hm hi o ho hv
  have h' : ¬ (i : Int) < (s.length : Int) := by omega
  refine ⟨o,ho,fun j hj => (hv j hj).trans ?_,?_⟩
  ·constructor
   ·rintro ⟨i',c,e,_,h⟩; exact ⟨i',c,e,h⟩
   ·rintro ⟨i',c,e,h⟩; exact ⟨i',c,e,by omega,h⟩
  ·rw [QsG]
   simp only [Qah,Qbc,Qfm,Qet,Qfd,Qdx,Qef,decide_false,Nat.zero_add,h']
   rw [QrJ,QrD ho]
 | succ m ih =>
  intro i hm hi o ho hv
  have h : i < s.length := by omega
  have h' : (i : Int) < (s.length : Int) := by omega
  have w1 : IntKind.i64.wrap ((i : Int) + 1) = ((i + 1 : Nat) : Int) := by rw [wrap_i64 (by omega) (by omega)]; omega
  have hA := ha.up (QrK H (.mk 2 S ks) o)
  obtain ⟨p,q1,q2⟩ := hA.load (j := i) (by omega)
  have ix := Qta h
  have hc : s[i].toNat < 256 := s[i].toNat_lt
  have w2 : IntKind.i64.wrap (s[i].toNat : Int) = (s[i].toNat : Int) := wrap_i64 (by omega) (by omega)
  have hh := fun G => WS hs hc G
  have ip := QrS (t := H.length + 1) (show i + 1 < s.length + 1 by omega)
  have sb := fun b => QrW (O := H.length) (Qro H (.mk 2 S ks) o) (by omega) (show i + 1 < o.length by omega) b
  simp only [QrI] at sb
  have key : ∀ b : Bool,b = (a[i] && S.has s[i].toNat) → ∃ r : List Bool,r.length = s.length + 1 ∧ (∀ j,j ≤ s.length → (mk r j ↔ ∃ i' c,j = i' + 1 ∧ s[i']? = some c ∧ mk a i' ∧ S.has c.toNat = true)) ∧
    QrL H.length (.str s) v (.ptr H.length 0 0) (.rs (H.length + 1) 0 1 0 (s.length + 1)) (.int .i64 ((i + 1 : Nat) : Int)) (HB H (.mk 2 S ks) (o.set (i + 1) b)) = some (.ret (.vs (bL r)),H) := fun b hb =>
   ih (i + 1) (by omega) (by omega) _ (by simp [ho]) fun j hj => by
    rw [QrZ (by omega)]
    have hai : mk a i ↔ a[i] = true := by unfold mk; rw [List.getElem?_eq_getElem (by omega)]; simp
    split
    ·rename_i e
     rw [hb,Bool.and_eq_true]
     constructor
     ·rintro ⟨h1,h2⟩
      exact ⟨i,s[i],e,by omega,by simp [h],hai.2 h1,h2⟩
     ·rintro ⟨i',c,e',_,h1,h2,h3⟩
      obtain rfl : i' = i := by omega
      rw [List.getElem?_eq_getElem h] at h1
      injection h1 with h1
      exact ⟨hai.1 h2,by rw [h1]; exact h3⟩
    ·rename_i e
     rw [hv j hj]
     constructor
     ·rintro ⟨i',c,e',h0,h1⟩; exact ⟨i',c,e',by omega,h1⟩
     ·rintro ⟨i',c,e',h0,h1⟩; exact ⟨i',c,e',by omega,h1⟩
  obtain ⟨r,r1,r2,r3⟩ := key _ rfl
  refine ⟨r,r1,r2,?_⟩
  have fp : Qq (.ptr H.length 0 0) 1 = some (.ptr H.length 0 (0 + 1)) := Qet _ _ _ _
  have ls : Qc true 4 (HB H (.mk 2 S ks) o) (.ptr H.length 0 (0 + 1)) = some (encS S) := by
   rw [Qj,show Qh (HB H (.mk 2 S ks) o) H.length = some (.var (Qd (.mk 2 S ks)).cells) by rw [Qck (by simp)]; exact ZR _ _]
   rw [Qcz,QE]
   rfl
  rw [QsG]
  cases hai : a[i] with
  | false =>
   rw [hai] at q2
   rw [hai,Bool.false_and] at r3
   simp only [Qah,Qag,Qab,Qbd,Qcf,Qfm,Qfq,Qet,Qfd,Qdx,Qef,decide_true,Nat.zero_add,h',w1,q1,q2,ip,sb,r3]
  | true =>
   rw [hai] at q2
   rw [hai,Bool.true_and] at r3
   simp only [Qah,Qag,Qab,Qbd,Qci,Qfm,Qfr,Qey,Qfd,Qdx,Qef,decide_true,Nat.zero_add,h',w1,q1,q2,fp,ls,ix,w2,hh,ip,sb,r3]
def QrF (s : Bs) (x : X) : Prop := ∀ (G : Qa) (v : V) (a : List Bool),AtV G v a → a.length = s.length + 1 →
 ∃ r : List Bool,r.length = s.length + 1 ∧ (∀ j,j ≤ s.length → (mk r j ↔ Qrl (Lg x) s (mk a) j)) ∧ E QrB [Qd x,.str s,v] G = some (.ret (.vs (bL r)),G)
theorem Qrl.same {P : Bs → Prop} {s : Bs} {a b : Nat → Prop} {j : Nat} (hj : j ≤ s.length) (h : ∀ i,i ≤ s.length → (a i ↔ b i)) : Qrl P s a j ↔ Qrl P s b j := by
 unfold Qrl
 refine exists_congr fun i => and_congr_right fun hi => ?_
 rw [h i (by omega)]
theorem QsF (H : Qa) (x : X) (o : List Bool) : Qh (HB H x o) H.length = some (.var (Qd x).cells) := by
 rw [Qck (by simp)]; exact ZR _ _
inductive OwnV (H : Qa) (n : Nat) (o : List Bool) : V → List Bool → Prop
 | vs (l : List Bool) : OwnV H n o (.vs (bL l)) l
 | own : OwnV H n o (.rs (H.length + 1) 0 1 0 n) o
theorem QtI {H : Qa} {s : Bs} {S : S4} {ks : List X} {o : List Bool} (ho : o.length = s.length + 1) (hk : ∀ x ∈ ks,QrF s x) (hl : ks.length ≤ 1000000000000) : ∀ (m i : Nat),ks.length - i = m → i ≤ ks.length → ∀ (v : V) (a : List Bool),OwnV H (s.length + 1) o v a → a.length = s.length + 1 →
  ∃ r : List Bool,r.length = s.length + 1 ∧ (∀ j,j ≤ s.length → (mk r j ↔ Qrl (LgC (ks.drop i)) s (mk a) j)) ∧
   QrQ H.length (.str s) (.ptr H.length 0 0) v (.int .i64 (i : Int)) (HB H (.mk 3 S ks) o) = some (.ret (.vs (bL r)),H) := by
 intro m
 induction m with
 | zero =>
  intro i hm hi v a hv ha
  have h' : ¬ (i : Int) < (ks.length : Int) := by omega
  refine ⟨a,ha,fun j hj => ?_,?_⟩
  ·rw [List.drop_of_length_le (by omega)]
   exact (Qsc hj).symm
  ·have g := QsF H (.mk 3 S ks) o
   have hret : rt false H.length v (HB H (.mk 3 S ks) o) = some (.ret (.vs (bL a)),H) := by
    cases hv with
    | vs => rw [Qgl,(QrK H _ o).trunc]
    | own => exact QrD ho
   rw [QsP]
   simp only [HB,QE,Qan] at hret ⊢
   simp only [Qah,Qbc,Qet,Qfc,Qdx,Qef,Qcz,Qhj,Qck,Qcj,Qbp,decide_false,List.drop_zero,List.drop_succ_cons,List.length_cons,Nat.zero_add,Qj,Nat.lt_add_one,h']
   rw [QrJ,hret]
 | succ m ih =>
  intro i hm hi v a hv ha
  have h : i < ks.length := by omega
  have h' : (i : Int) < (ks.length : Int) := by omega
  have w1 : IntKind.i64.wrap ((i : Int) + 1) = ((i + 1 : Nat) : Int) := by rw [wrap_i64 (by omega) (by omega)]; omega
  have hav : AtV (HB H (.mk 3 S ks) o) v a := by
   cases hv with
   | vs => exact .vs _
   | own => rw [← ho]; exact .rs _ _ (Qro H _ o)
  obtain ⟨r,r1,r2,r3⟩ := hk ks[i] (List.getElem_mem h) _ v a hav ha
  obtain ⟨q,q1,q2,q3⟩ := ih (i + 1) (by omega) (by omega) (.vs (bL r)) r (.vs r) r1
  have i1 := Y8 h .i64
  refine ⟨q,q1,fun j hj => ?_,?_⟩
  ·rw [q2 j hj,List.drop_eq_getElem_cons h,Qrl.same hj r2]
   exact (QsJ hj).symm
  ·rw [QsP]
   simp only [HB,QE,Qan] at r3 q3 ⊢
   simp only [Qah,Qab,Qbd,Qet,Qfc,Qdx,Qef,Qcz,Qfh,Qhj,Qck,Qcj,Qhi,Qbp,Qbg,Qbf,Qbo,decide_true,List.drop_zero,List.drop_succ_cons,List.length_cons,Nat.zero_add,Qj,Nat.le_refl,Nat.lt_add_one,h',i1,Zx,r3,w1,q3]
theorem Qs9 {H : Qa} {s : Bs} {x : X} {t1 v : V} {i : Nat} {q : List Bool} (hq : q.length = s.length + 1) (hn : s.length ≤ 1000) : ∀ (m k : Nat),s.length + 1 - k = m → k ≤ s.length + 1 → ∀ (o : List Bool),o.length = s.length + 1 →
  ∃ r : List Bool,r.length = s.length + 1 ∧ (∀ j,j ≤ s.length → (mk r j ↔ mk o j ∨ (k ≤ j ∧ mk q j))) ∧
   Qr8 H.length t1 v (.ptr H.length 0 0) (.rs (H.length + 1) 0 1 0 (s.length + 1)) (.int .i64 (i : Int)) (.vs (bL q)) (.int .i64 (k : Int)) (HB H x o) =
    bnd (Qb .add 6 (.int .i64 (i : Int)) (.int .i64 1)) fun v68 => QrO H.length t1 v (.ptr H.length 0 0) (.rs (H.length + 1) 0 1 0 (s.length + 1)) v68 (HB H x r) := by
 intro m
 induction m with
 | zero =>
  intro k hm hk o ho
  have h' : ¬ (k : Int) < ((s.length + 1 : Nat) : Int) := by omega
  refine ⟨o,ho,fun j hj => ⟨.inl,fun h => h.elim id fun h => absurd h.1 (by omega)⟩,?_⟩
  rw [Qs6]
  simp only [Qah,Qbc,Qfm,Qfc,Qdx,Qef,decide_false,Qrt,hq,h']
 | succ m ih =>
  intro k hm hk o ho
  have h' : (k : Int) < ((s.length + 1 : Nat) : Int) := by omega
  have w1 : IntKind.i64.wrap ((k : Int) + 1) = ((k + 1 : Nat) : Int) := by rw [wrap_i64 (by omega) (by omega)]; omega
  obtain ⟨p,p1,p2⟩ := (AtV.rs (G := HB H x o) _ o (Qro H x o)).load (j := k) (by omega)
  have ip := QrS (t := H.length + 1) (show k < s.length + 1 by omega)
  rw [ho,ip] at p1
  injection p1 with p1
  subst p1
  obtain ⟨p',u1,u2⟩ := (AtV.vs (G := HB H x o) q).load (j := k) (by omega)
  have sb := fun b => QrW (O := H.length) (Qro H x o) (by omega) (show k < o.length by omega) b
  simp only [QrI] at sb
  have ho' : mk o k ↔ o[k] = true := by unfold mk; rw [List.getElem?_eq_getElem (by omega)]; simp
  have hq' : mk q k ↔ q[k] = true := by unfold mk; rw [List.getElem?_eq_getElem (by omega)]; simp
  obtain ⟨r,r1,r2,r3⟩ := ih (k + 1) (by omega) (by omega) (o.set k (o[k] || q[k])) (by simp [ho])
  refine ⟨r,r1,fun j hj => ?_,?_⟩
  ·rw [r2 j hj,QrZ (by omega)]
   by_cases e : j = k
   ·subst e
    rw [if_pos rfl,Bool.or_eq_true,← ho',← hq']
    constructor
    ·rintro ((h | h) | h)
     ·exact .inl h
     ·exact .inr ⟨Nat.le_refl _,h⟩
     ·exact absurd h.1 (by omega)
    ·rintro (h | h)
     ·exact .inl (.inl h)
     ·exact .inl (.inr h.2)
   ·rw [if_neg e]
    constructor
    ·rintro (h | h)
     ·exact .inl h
     ·exact .inr ⟨by omega,h.2⟩
    ·rintro (h | h)
     ·exact .inl h
     ·exact .inr ⟨by omega,h.2⟩
  ·rw [Qs6]
   cases hok : o[k] with
   | true =>
    rw [hok] at p2
    rw [hok,Bool.true_or] at r3
    simp only [Qah,Qag,Qbd,Qcg,Qfm,Qfr,Qfc,Qdx,Qef,decide_true,Qrt,hq,h',ip,p2,sb,w1,r3]
   | false =>
    rw [hok] at p2
    rw [hok,Bool.false_or] at r3
    simp only [Qah,Qag,Qbd,Qci,Qfm,Qfq,Qfc,Qdx,Qef,decide_true,Qrt,hq,h',ip,p2,u1,u2,sb,w1,r3]
theorem Qtm {H : Qa} {s : Bs} {S : S4} {ks : List X} {v : V} {a : List Bool} (hn : s.length ≤ 1000) (hA : AtV H v a) (ha : a.length = s.length + 1) (hk : ∀ x ∈ ks,QrF s x) (hl : ks.length ≤ 1000000000000) : ∀ (m i : Nat),ks.length - i = m → i ≤ ks.length → ∀ (o : List Bool),o.length = s.length + 1 →
  ∃ r : List Bool,r.length = s.length + 1 ∧ (∀ j,j ≤ s.length → (mk r j ↔ mk o j ∨ Qrl (LgE (ks.drop i)) s (mk a) j)) ∧
   QrO H.length (.str s) v (.ptr H.length 0 0) (.rs (H.length + 1) 0 1 0 (s.length + 1)) (.int .i64 (i : Int)) (HB H (.mk 4 S ks) o) = some (.ret (.vs (bL r)),H) := by
 intro m
 induction m with
 | zero =>
  intro i hm hi o ho
  have h' : ¬ (i : Int) < (ks.length : Int) := by omega
  refine ⟨o,ho,fun j hj => ?_,?_⟩
  ·rw [List.drop_of_length_le (by omega)]
   refine ⟨.inl,fun h => h.elim id fun h => ?_⟩
   obtain ⟨_,_,_,h⟩ := h
   exact h.elim
  ·have hret := QrD (H := H) (x := .mk 4 S ks) ho
   rw [QsE]
   simp only [HB,QE,Qan] at hret ⊢
   simp only [Qah,Qbc,Qet,Qfc,Qef,Qcz,Qhj,Qck,Qcj,Qbp,decide_false,List.drop_zero,List.drop_succ_cons,List.length_cons,Nat.zero_add,Qj,Nat.lt_add_one,h']
   rw [QrJ,hret]
 | succ m ih =>
  intro i hm hi o ho
  have h : i < ks.length := by omega
  have h' : (i : Int) < (ks.length : Int) := by omega
  have w1 : IntKind.i64.wrap ((i : Int) + 1) = ((i + 1 : Nat) : Int) := by rw [wrap_i64 (by omega) (by omega)]; omega
  obtain ⟨q,q1,q2,q3⟩ := hk ks[i] (List.getElem_mem h) _ v a (hA.up (QrK H (.mk 4 S ks) o)) ha
  obtain ⟨p,p1,p2,p3⟩ := Qs9 (H := H) (s := s) (x := .mk 4 S ks) (t1 := .str s) (v := v) (i := i) q1 hn (s.length + 1) 0 rfl (by omega) o ho
  obtain ⟨r,r1,r2,r3⟩ := ih (i + 1) (by omega) (by omega) p p1
  have i1 := Y8 h .i64
  refine ⟨r,r1,fun j hj => ?_,?_⟩
  ·rw [r2 j hj,p2 j hj,q2 j hj,List.drop_eq_getElem_cons h,or_assoc]
   refine or_congr Iff.rfl ?_
   rw [and_iff_right (Nat.zero_le _)]
   exact QsX.symm
  ·simp only [Qam] at p3
   rw [QsE]
   simp only [HB,QE,Qan] at q3 p3 r3 ⊢
   simp only [Qah,Qab,Qbd,Qet,Qfc,Qdx,Qef,Qcz,Qfh,Qhj,Qck,Qcj,Qhi,Qbp,Qbg,Qbf,Qbo,decide_true,List.drop_zero,List.drop_succ_cons,List.length_cons,Nat.zero_add,Qj,Nat.le_refl,Nat.lt_add_one,h',i1,Zx,q3,p3,w1,r3]
theorem QtR {H : Qa} {s : Bs} {x : X} {t1 : V} {i : Nat} {q : List Bool} (hq : q.length = s.length + 1) (hn : s.length ≤ 1000) : ∀ (m k : Nat),s.length + 1 - k = m → k ≤ s.length + 1 → ∀ (o : List Bool),o.length = s.length + 1 →
  ∃ r : List Bool,r.length = s.length + 1 ∧ (∀ j,j ≤ s.length → (mk r j ↔ mk o j ∨ (k ≤ j ∧ mk q j))) ∧
   Qr0 H.length t1 (.ptr H.length 0 0) (.rs (H.length + 1) 0 1 0 (s.length + 1)) (.int .i64 (i : Int)) (.vs (bL q)) (.int .i64 (k : Int)) (HB H x o) =
    bnd (Qb .add 6 (.int .i64 (i : Int)) (.int .i64 1)) fun v68 => QrE H.length t1 (.ptr H.length 0 0) (.rs (H.length + 1) 0 1 0 (s.length + 1)) v68 (HB H x r) := by
 intro m
 induction m with
 | zero =>
  intro k hm hk o ho
  have h' : ¬ (k : Int) < ((s.length + 1 : Nat) : Int) := by omega
  refine ⟨o,ho,fun j hj => ⟨.inl,fun h => h.elim id fun h => absurd h.1 (by omega)⟩,?_⟩
  rw [QsY]
  simp only [Qah,Qbc,Qfm,Qfc,Qdx,Qef,decide_false,Qrt,hq,h']
 | succ m ih =>
  intro k hm hk o ho
  have h' : (k : Int) < ((s.length + 1 : Nat) : Int) := by omega
  have w1 : IntKind.i64.wrap ((k : Int) + 1) = ((k + 1 : Nat) : Int) := by rw [wrap_i64 (by omega) (by omega)]; omega
  obtain ⟨p,p1,p2⟩ := (AtV.rs (G := HB H x o) _ o (Qro H x o)).load (j := k) (by omega)
  have ip := QrS (t := H.length + 1) (show k < s.length + 1 by omega)
  rw [ho,ip] at p1
  injection p1 with p1
  subst p1
  obtain ⟨p',u1,u2⟩ := (AtV.vs (G := HB H x o) q).load (j := k) (by omega)
  have sb := fun b => QrW (O := H.length) (Qro H x o) (by omega) (show k < o.length by omega) b
  simp only [QrI] at sb
  have ho' : mk o k ↔ o[k] = true := by unfold mk; rw [List.getElem?_eq_getElem (by omega)]; simp
  have hq' : mk q k ↔ q[k] = true := by unfold mk; rw [List.getElem?_eq_getElem (by omega)]; simp
  obtain ⟨r,r1,r2,r3⟩ := ih (k + 1) (by omega) (by omega) (o.set k (o[k] || q[k])) (by simp [ho])
  refine ⟨r,r1,fun j hj => ?_,?_⟩
  ·rw [r2 j hj,QrZ (by omega)]
   by_cases e : j = k
   ·subst e
    rw [if_pos rfl,Bool.or_eq_true,← ho',← hq']
    constructor
    ·rintro ((h | h) | h)
     ·exact .inl h
     ·exact .inr ⟨Nat.le_refl _,h⟩
     ·exact absurd h.1 (by omega)
    ·rintro (h | h)
     ·exact .inl (.inl h)
     ·exact .inl (.inr h.2)
   ·rw [if_neg e]
    constructor
    ·rintro (h | h)
     ·exact .inl h
     ·exact .inr ⟨by omega,h.2⟩
    ·rintro (h | h)
     ·exact .inl h
     ·exact .inr ⟨by omega,h.2⟩
  ·rw [QsY]
   cases hok : o[k] with
   | true =>
    rw [hok] at p2
    rw [hok,Bool.true_or] at r3
    simp only [Qah,Qag,Qbd,Qcg,Qfm,Qfr,Qfc,Qdx,Qef,decide_true,Qrt,hq,h',ip,p2,sb,w1,r3]
   | false =>
    rw [hok] at p2
    rw [hok,Bool.false_or] at r3
    simp only [Qah,Qag,Qbd,Qci,Qfm,Qfq,Qfc,Qdx,Qef,decide_true,Qrt,hq,h',ip,p2,u1,u2,sb,w1,r3]
theorem QtT {H : Qa} {s : Bs} {S : S4} {c : X} {a : List Bool} (hn : s.length ≤ 1000) (hk : QrF s c) : ∀ (m i : Nat),s.length + 1 - i = m → i ≤ s.length + 1 → ∀ (o : List Bool),o.length = s.length + 1 → (∀ j,j ≤ s.length → (mk o j ↔ Qrl (SLe (Lg c) i) s (mk a) j)) →
  ∃ r : List Bool,r.length = s.length + 1 ∧ (∀ j,j ≤ s.length → (mk r j ↔ Qrl (StarL (Lg c)) s (mk a) j)) ∧
   QrE H.length (.str s) (.ptr H.length 0 0) (.rs (H.length + 1) 0 1 0 (s.length + 1)) (.int .i64 (i : Int)) (HB H (.mk 5 S [c]) o) = some (.ret (.vs (bL r)),H) := by
 intro m
 induction m with
 | zero =>
  intro i hm hi o ho hv
  have h' : ¬ (i : Int) ≤ (s.length : Int) := by omega
  refine ⟨o,ho,fun j hj => (hv j hj).trans (Qtl hj (by omega)),?_⟩
  have hret := QrD (H := H) (x := .mk 5 S [c]) ho
  rw [Qs7]
  simp only [HB,QE,Qan] at hret ⊢
  simp only [Qah,Qbc,Qcf,Qfq,Qet,Qfd,Qee,Qcz,Qhj,Qck,Qcj,decide_false,List.drop_zero,List.drop_succ_cons,List.length_cons,Nat.zero_add,Qj,Nat.lt_add_one,h']
  rw [QrJ,hret]
 | succ m ih =>
  intro i hm hi o ho hv
  have h' : (i : Int) ≤ (s.length : Int) := by omega
  have w1 : IntKind.i64.wrap ((i : Int) + 1) = ((i + 1 : Nat) : Int) := by rw [wrap_i64 (by omega) (by omega)]; omega
  have hav : AtV (HB H (.mk 5 S [c]) o) (.rs (H.length + 1) 0 1 0 (s.length + 1)) o := by
   rw [← ho]; exact .rs _ _ (Qro H _ o)
  obtain ⟨q,q1,q2,q3⟩ := hk _ _ o hav ho
  obtain ⟨p,p1,p2,p3⟩ := QtR (H := H) (s := s) (x := .mk 5 S [c]) (t1 := .str s) (i := i) q1 hn (s.length + 1) 0 rfl (by omega) o ho
  obtain ⟨r,r1,r2,r3⟩ := ih (i + 1) (by omega) (by omega) p p1 fun j hj => by
   rw [p2 j hj,q2 j hj,hv j hj,and_iff_right (Nat.zero_le _),Qtq hj]
   refine or_congr Iff.rfl ?_
   exact Qrl.same hj hv
  have i0 := Y8 (ks := [c]) (j := 0) (by simp) .i64
  refine ⟨r,r1,r2,?_⟩
  simp only [Qam] at p3
  simp only [Qam,List.getElem_cons_zero,Qw] at i0
  rw [Qs7]
  simp only [HB,QE,Qan,Qw] at q3 p3 r3 ⊢
  simp only [Qah,Qab,Qbd,Qci,Qfr,Qet,Qfd,Qfc,Qdx,Qeb,Qee,Qcz,Qfh,Qhj,Qam,Qck,Qcj,Qhi,Qbg,Qbf,Qbo,decide_true,List.drop_zero,List.drop_succ_cons,List.length_cons,List.length_nil,Nat.zero_add,Qj,Nat.le_refl,Nat.lt_add_one,h',i0,Zx,q3,p3,w1,r3]
abbrev noL (n : Nat) : List Bool := List.replicate n false
theorem QrR (n j : Nat) : ¬ mk (noL n) j := by
 unfold mk
 rw [List.getElem?_replicate]
 split <;> simp
theorem mkR (n : Nat) (hn : n ≤ 1000) (G : Qa) : R5 1 false 1 [.bool false] (.int .i64 ((n + 1 : Nat) : Int)) (.int .i64 ((n + 1 : Nat) : Int)) G = some (.rs G.length 0 1 0 (n + 1),Qrn (noL (n + 1)) :: G) := by
 have := Qoo (n := 1) (by_ := 1) (ag := false) (z := [V.bool false]) (k := .i64) (l := .i64) (m := n + 1) (H := G) (by simp [Yj]; omega) (by omega) rfl (by omega) rfl
 rw [QtP] at this
 exact this
theorem QsA : ∀ (n : Nat) (x : X),x.size ≤ n → n ≤ 1000000000000 → Rt x → x.ok → ∀ s : Bs,s.length ≤ 1000 → QrF s x
 | 0,x,h,_,_,_,_,_ => by have := Yl x; omega
 | n + 1,.mk k S ks,h,hn,hr,hok,s,hs => by
  have hsz : Qk ks ≤ n := by simp only [X.size] at h; omega
  have hll := Yq ks
  have hkr := ((Ys _).1 hr).1
  have hko := X.ok_kids hok
  have hk := Uc hr
  simp only [X.k] at hk
  simp only [X.ks] at hkr hko
  have hq : ∀ x ∈ ks,QrF s x := fun x hx => QsA n x (Nat.le_trans (Yv hx) hsz) (by omega) (hkr x hx) (hko x hx) s hs
  intro H v a hv ha
  have w1 : IntKind.i64.wrap ((s.length : Int) + 1) = ((s.length + 1 : Nat) : Int) := by rw [wrap_i64 (by omega) (by omega)]; omega
  have mr := mkR s.length hs
  have ov : QD H (Qd (.mk k S ks)) = some (.ptr H.length 0 0,.var (Qd (.mk k S ks)).cells :: H) := R9 (by simp)
  have cp : ∀ x,Qd7 H.length 1 (.rs (H.length + 1) 0 1 0 (s.length + 1)) v (HB H x (noL (s.length + 1))) = some (.int .i64 ((s.length + 1 : Nat) : Int),HB H x a) := fun x => by
   have := (hv.up (QrK H x (noL (s.length + 1)))).copy (O := H.length) (Qro H x (noL (s.length + 1))) (by simp [ha]) (by omega) (by omega)
   rw [QrI,ha] at this
   exact this
  have j1 : ∀ (x : X) (o : List Bool),o.length = s.length + 1 → Qrr H.length (.rs (H.length + 1) 0 1 0 (s.length + 1)) (HB H x o) = some (.ret (.vs (bL o)),H) := fun x o ho => by
   rw [QrJ,QrD ho]
  have hz : (noL (s.length + 1)).length = s.length + 1 := by simp
  rcases hk with rfl | rfl | rfl | rfl | rfl | rfl
  ·refine ⟨noL (s.length + 1),hz,fun j hj => ?_,?_⟩
   ·constructor
    ·intro h; exact absurd h (QrR _ _)
    ·rintro ⟨_,_,_,h⟩; exact ((Qrp (by decide) _ _ _).1 h).elim
   ·have j := j1 (.mk 0 S ks) _ hz
    have n01 : ¬ (0 : Int) = 1 := by decide
    have n02 : ¬ (0 : Int) = 2 := by decide
    have n03 : ¬ (0 : Int) = 3 := by decide
    have n04 : ¬ (0 : Int) = 4 := by decide
    have n05 : ¬ (0 : Int) = 5 := by decide
    rw [Qrz,QrA]
    simp only [HB,QE,Qan] at j ov ⊢
    simp only [Qah,Qag,Qbc,Qet,Qfd,Qdx,Qeb,Qcz,Qhj,Qan,Qgo,Qgn,Qgs,Qhc,Qck,Qcj,Qfv,decide_false,List.drop_zero,List.length_cons,Nat.add_zero,Bool.and_true,Qj,Nat.lt_add_one,ov,w1,mr,n01,n02,n03,n04,n05,j]
  ·refine ⟨a,ha,fun j hj => ?_,?_⟩
   ·rw [Qrl.congr (Qrx S ks),Qsc hj]
   ·have j := j1 (.mk 1 S ks) _ ha
    have c := cp (.mk 1 S ks)
    rw [Qrz,QrA]
    simp only [HB,QE,Qan] at j c ov ⊢
    simp only [Qah,Qag,Qbd,Qet,Qfd,Qdx,Qeb,Qcz,Qhj,Qan,Qgo,Qgn,Qgs,Qhc,Qck,Qcj,Qfv,decide_true,List.drop_zero,List.length_cons,Nat.add_zero,Bool.and_true,Qj,Nat.lt_add_one,ov,w1,mr,c,j]
  ·obtain ⟨r,r1,r2,r3⟩ := QtB (H := H) (s := s) (S := S) (ks := ks) hok.1 hv ha hs s.length 0 rfl (Nat.zero_le _) (noL (s.length + 1)) hz fun j hj => by
    constructor
    ·intro h; exact absurd h (QrR _ _)
    ·rintro ⟨i',c,_,h,_⟩; exact absurd h (by omega)
   refine ⟨r,r1,fun j hj => ?_,?_⟩
   ·rw [r2 j hj,Qrl.congr (Qrv S ks),Qtf hj]
   ·have n21 : ¬ (2 : Int) = 1 := by decide
    simp only [Qam] at r3
    rw [Qrz,QrA]
    simp only [HB,QE,Qan] at r3 ov ⊢
    simp only [Qah,Qag,Qbd,Qbc,Qet,Qfd,Qdx,Qeb,Qcz,Qhj,Qan,Qgo,Qgn,Qgs,Qhc,Qck,Qcj,Qfv,decide_true,decide_false,List.drop_zero,List.length_cons,Nat.add_zero,Bool.and_true,Qj,Nat.lt_add_one,ov,w1,mr,n21,r3]
  ·obtain ⟨r,r1,r2,r3⟩ := QtI (H := H) (s := s) (S := S) (ks := ks) (o := a) ha hq (by omega) ks.length 0 rfl (Nat.zero_le _) _ a .own ha
   refine ⟨r,r1,fun j hj => ?_,?_⟩
   ·rw [r2 j hj,List.drop_zero]
    exact Qrl.congr fun t => (QrN S ks t).symm
   ·have n31 : ¬ (3 : Int) = 1 := by decide
    have n32 : ¬ (3 : Int) = 2 := by decide
    have c := cp (.mk 3 S ks)
    simp only [Qam] at r3
    rw [Qrz,QrA]
    simp only [HB,QE,Qan] at r3 c ov ⊢
    simp only [Qah,Qag,Qbd,Qbc,Qet,Qfd,Qdx,Qeb,Qcz,Qhj,Qan,Qgo,Qgn,Qgs,Qhc,Qck,Qcj,Qfv,decide_true,decide_false,List.drop_zero,List.length_cons,Nat.add_zero,Bool.and_true,Qj,Nat.lt_add_one,ov,w1,mr,n31,n32,c,r3]
  ·obtain ⟨r,r1,r2,r3⟩ := Qtm (H := H) (s := s) (S := S) (ks := ks) hs hv ha hq (by omega) ks.length 0 rfl (Nat.zero_le _) (noL (s.length + 1)) hz
   refine ⟨r,r1,fun j hj => ?_,?_⟩
   ·rw [r2 j hj,List.drop_zero,or_iff_right (QrR _ _)]
    exact Qrl.congr fun t => (Qry S ks t).symm
   ·have n41 : ¬ (4 : Int) = 1 := by decide
    have n42 : ¬ (4 : Int) = 2 := by decide
    have n43 : ¬ (4 : Int) = 3 := by decide
    simp only [Qam] at r3
    rw [Qrz,QrA]
    simp only [HB,QE,Qan] at r3 ov ⊢
    simp only [Qah,Qag,Qbd,Qbc,Qet,Qfd,Qdx,Qeb,Qcz,Qhj,Qan,Qgo,Qgn,Qgs,Qhc,Qck,Qcj,Qfv,decide_true,decide_false,List.drop_zero,List.length_cons,Nat.add_zero,Bool.and_true,Qj,Nat.lt_add_one,ov,w1,mr,n41,n42,n43,r3]
  ·obtain ⟨c,rfl,_⟩ := Nm hr
   obtain ⟨r,r1,r2,r3⟩ := QtT (H := H) (s := s) (S := S) (c := c) (a := a) hs (hq c (by simp)) (s.length + 1) 0 rfl (Nat.zero_le _) a ha fun j hj => (Qsc hj).symm
   refine ⟨r,r1,fun j hj => ?_,?_⟩
   ·rw [r2 j hj]
    exact Qrl.congr fun t => (Qss S c t).symm
   ·have n51 : ¬ (5 : Int) = 1 := by decide
    have n52 : ¬ (5 : Int) = 2 := by decide
    have n53 : ¬ (5 : Int) = 3 := by decide
    have n54 : ¬ (5 : Int) = 4 := by decide
    have q := cp (.mk 5 S [c])
    simp only [Qam] at r3
    rw [Qrz,QrA]
    simp only [HB,QE,Qw,Qan] at r3 q ov ⊢
    simp only [Qah,Qag,Qbd,Qbc,Qet,Qfd,Qdx,Qeb,Qcz,Qhj,Qan,Qgo,Qgn,Qgs,Qhc,Qck,Qcj,Qfv,decide_true,decide_false,List.drop_zero,List.length_cons,Nat.add_zero,Bool.and_true,Qj,Nat.lt_add_one,ov,w1,mr,n51,n52,n53,n54,q,r3]
open Classical in
theorem QtM {x : X} (hs : x.size ≤ 1000000000000) (hr : Rt x) (hok : x.ok) {s : Bs} (hn : s.length ≤ 1000) (H : Qa) : E QrM [Qd x,.str s] H = some (.ret (.bool (decide (Lg x s))),H) := by
 have w1 : IntKind.i64.wrap ((s.length : Int) + 1) = ((s.length + 1 : Nat) : Int) := by rw [wrap_i64 (by omega) (by omega)]; omega
 have mr := mkR s.length hn
 have ov : QD H (Qd x) = some (.ptr H.length 0 0,.var (Qd x).cells :: H) := R9 (by simp)
 have ip := QrS (t := H.length + 1) (show 0 < s.length + 1 by omega)
 have sb := QrW (O := H.length) (Qro H x (noL (s.length + 1))) (by omega) (show 0 < (noL (s.length + 1)).length by simp) true
 rw [QrI] at sb
 have hl : ((noL (s.length + 1)).set 0 true).length = s.length + 1 := by simp
 have hav : AtV (HB H x ((noL (s.length + 1)).set 0 true)) (.rs (H.length + 1) 0 1 0 (s.length + 1)) ((noL (s.length + 1)).set 0 true) := by
  have := AtV.rs (G := HB H x ((noL (s.length + 1)).set 0 true)) _ _ (Qro H x ((noL (s.length + 1)).set 0 true))
  rwa [hl] at this
 obtain ⟨r,r1,r2,r3⟩ := QsA _ x (Nat.le_refl _) hs hr hok s hn _ _ _ hav hl
 have ld : Qc true 6 (HB H x ((noL (s.length + 1)).set 0 true)) (.ptr H.length 0 0) = some (Qd x) := by
  rw [Qj,QsF,Qcz,List.drop_zero,Zx]
 obtain ⟨p,p1,p2⟩ := (AtV.vs (G := HB H x ((noL (s.length + 1)).set 0 true)) r).load (j := s.length) (by omega)
 have hv : r[s.length] = decide (Lg x s) := by
  have h1 := r2 s.length (Nat.le_refl _)
  have h2 : Qrl (Lg x) s (mk ((noL (s.length + 1)).set 0 true)) s.length ↔ Qrl (Lg x) s (fun i => i = 0) s.length := Qrl.same (Nat.le_refl _) fun i hi => by
   rw [QrZ (by simp)]
   split
   ·rename_i e; simp [e]
   ·rename_i e; simp [QrR,e]
  rw [h2,Qt8] at h1
  have h3 : mk r s.length ↔ r[s.length] = true := by unfold mk; rw [List.getElem?_eq_getElem (by omega)]; simp
  rw [h3] at h1
  by_cases h : Lg x s
  ·rw [h1.2 h]; simp [h]
  ·cases hb : r[s.length] with
   | true => exact absurd (h1.1 hb) h
   | false => simp [h]
 rw [hv] at p2
 have ht := (QrK H x ((noL (s.length + 1)).set 0 true)).trunc
 generalize (noL (s.length + 1)).set 0 true = A at sb ld p2 r3 ht
 simp only [Qam] at ip
 rw [Qti,QtD]
 simp only [Qah,Qag,Qab,Qfd,Qdx,Qgc,Qfv,Qbm,List.length_cons,Nat.reduceMul,ov,w1,mr,ip,sb,ld,r3,p1,p2,ht]
 done
end Go.Proofs.YtdnmpaielmfiiaaDoor
end
