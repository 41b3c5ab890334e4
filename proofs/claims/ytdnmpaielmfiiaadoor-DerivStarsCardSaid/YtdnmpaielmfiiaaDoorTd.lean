/- Td: a part of the proof that each law of this seat answers true at every input. No condition. -/
import Derived.Test.YtdnmpaielmfiiaaDoorTc
import Derived.Test.YtdnmpaielmfiiaaDoorXa
set_option linter.unusedVariables false
set_option linter.unusedSimpArgs false
set_option maxRecDepth 20000
section
namespace Go.Proofs.YtdnmpaielmfiiaaDoor
open Go Go.Ev Go.X7 Go.Srt
set_option maxRecDepth 20000
theorem Qhm : ∀ {l m : List X},l.length ≠ m.length → Jg l m = false
 | [],[],h => absurd rfl h
 | [],_ :: _,_ => rfl
 | _ :: _,[],_ => rfl
 | x :: l,y :: m,h => by rw [Jg,Qhm (by simpa using h),Bool.and_false]
theorem Qjh {l m : List X} {i : Nat} (h1 : i < l.length) (h2 : i < m.length) : Jg (l.drop i) (m.drop i) = (sameX l[i] m[i] && Jg (l.drop (i + 1)) (m.drop (i + 1))) := by
 rw [List.drop_eq_getElem_cons h1,List.drop_eq_getElem_cons h2,Jg]
theorem Qm8 {k k' : Int} {s s' : S4} {l m : List X} (hlm : l.length = m.length) (hl : l.length ≤ 900000000000) {H : Qa} (hq : ∀ x ∈ l,∀ y G,E Jv [Qd x,Qd y] G = some (.ret (.bool (sameX x y)),G)) : ∀ (n i : Nat),l.length - i = n → i ≤ l.length →
  PR H.length (.ptr H.length 0 0) (.ptr (H.length + 1) 0 0) (.int .i64 (i : Int)) (.var (Qd (.mk k' s' m)).cells :: .var (Qd (.mk k s l)).cells :: H) = some (.ret (.bool (Jg (l.drop i) (m.drop i))),H) := by
 intro n
 induction n with
 | zero =>
  intro i hn hi
  have h' : ¬ (i : Int) < (l.length : Int) := by omega
  rw [List.drop_of_length_le (show l.length ≤ i by omega),List.drop_of_length_le (show m.length ≤ i by omega),XO]
  rw [QE,QE]
  simp only [Qah,Qbc,Qet,Qfc,Qdx,Qef,Qcx,Qcz,Qhj,Qgc,Qan,Qcr,Qck,Qcj,Qbp,decide_false,List.drop_zero,List.drop_succ_cons,List.length_cons,Nat.zero_add,Qj,Qu,Nat.le_refl,Nat.lt_add_one,h',Jg]
 | succ n ih =>
  intro i hn hi
  have h : i < l.length := by omega
  have h2 : i < m.length := by omega
  have h' : (i : Int) < (l.length : Int) := by omega
  have w1 := YP (a := i) (by omega)
  have q := hq l[i] (List.getElem_mem h) m[i]
  have i1 := Y8 h .i64
  have i2 := Y8 h2 .i64
  have k2 := ih (i + 1) (by omega) (by omega)
  rw [Qjh h h2,XO]
  rw [QE,QE] at k2 ⊢
  cases hb : sameX l[i] m[i] with
  | false =>
   rw [hb] at q
   simp only [Qah,Qab,Qbd,Qet,Qfu,Qfc,Qdx,Qef,Qcx,Qcz,Qfh,Qhj,Qgc,Qan,Qcr,Qck,Qcj,Qhi,Qbp,Qbg,Qbf,Qbo,decide_true,Bool.not_false,List.drop_zero,List.drop_succ_cons,List.length_cons,Nat.zero_add,Bool.false_and,Qj,Qu,Nat.le_refl,Nat.lt_add_one,h',i1,i2,Zx,q]
  | true =>
   rw [hb] at q
   simp only [Qan] at k2
   simp only [Qah,Qab,Qbd,Qbc,Qet,Qfu,Qfc,Qdx,Qef,Qcx,Qcz,Qfh,Qhj,Qgc,Qan,Qcr,Qck,Qcj,Qhi,Qbp,Qbg,Qbf,Qbo,decide_true,Bool.not_true,List.drop_zero,List.drop_succ_cons,List.length_cons,Nat.zero_add,Bool.true_and,Qj,Qu,Nat.le_refl,Nat.lt_add_one,h',i1,i2,Zx,q,w1,k2]
theorem BR : ∀ (n : Nat) (x y : X),x.size ≤ n → n ≤ 900000000000 → ∀ H,E Jv [Qd x,Qd y] H = some (.ret (.bool (sameX x y)),H)
 | 0,x,_,h,_,_ => by have := Yl x; omega
 | n + 1,.mk k s l,.mk k' s' m,h,hn,H => by
  have hsz : Qk l ≤ n := by simp only [X.size] at h; omega
  have hll := Yq l
  have hq : ∀ x ∈ l,∀ y G,E Jv [Qd x,Qd y] G = some (.ret (.bool (sameX x y)),G) := fun x hx y G => BR n x y (Nat.le_trans (Yv hx) hsz) (by omega) G
  rw [QjP,Qn4]
  have ns := neS s s'
  simp only [X7.sameX]
  by_cases h1 : k = k'
  ·subst h1
   by_cases h2 : s = s'
   ·subst h2
    rw [decide_eq_true rfl,Bool.not_true] at ns
    by_cases h3 : l.length = m.length
    ·have k2 := Qm8 (k := k) (k' := k) (s := s) (s' := s) (l := l) (m := m) h3 (by omega) (H := H) hq l.length 0 rfl (Nat.zero_le _)
     have h3' : (l.length : Int) = (m.length : Int) := by omega
     rw [QE,QE] at k2 ⊢
     simp only [Qam,Qan,Qam,List.drop_zero] at k2
     simp only [Qah,Qag,Qbc,Qci,Qfq,Qet,Qfc,Qeh,Qcx,Qcz,Qhj,Qgc,Qan,Qgo,Qgn,Qgs,Qhc,Qcr,Qck,Qcj,Qfv,Qhi,Qbp,decide_true,Bool.not_true,List.drop_zero,List.drop_succ_cons,List.length_cons,List.length_nil,Nat.add_zero,Nat.zero_add,Bool.and_true,Bool.true_and,Nat.reduceAdd,Qj,Qu,Nat.le_refl,Nat.lt_add_one,List.take_zero,List.take_succ_cons,ns,h3',k2]
    ·have h3' : ¬ (l.length : Int) = (m.length : Int) := by omega
     rw [QE,QE]
     simp only [Qah,Qag,Qbd,Qci,Qfq,Qet,Qfc,Qeh,Qcx,Qcz,Qhj,Qgc,Qan,Qgo,Qgn,Qgs,Qhc,Qcr,Qck,Qcj,Qfv,Qhi,Qbp,decide_true,decide_false,Bool.not_true,Bool.not_false,List.drop_zero,List.drop_succ_cons,List.length_cons,List.length_nil,Nat.add_zero,Nat.zero_add,Bool.and_true,Bool.and_false,Nat.reduceAdd,Qj,Qu,Nat.le_refl,Nat.lt_add_one,List.take_zero,List.take_succ_cons,ns,h3',Qhm h3]
   ·rw [decide_eq_false h2,Bool.not_false] at ns
    rw [QE,QE]
    simp only [Qah,Qag,Qbd,Qci,Qcg,Qfr,Qfq,Qet,Qeh,Qcx,Qcz,Qhj,Qgc,Qan,Qgo,Qgn,Qgs,Qhc,Qcr,Qck,Qcj,Qfv,Qhi,decide_true,decide_false,Bool.not_true,List.drop_zero,List.drop_succ_cons,List.length_cons,List.length_nil,Nat.add_zero,Nat.zero_add,Bool.and_true,Bool.false_and,Bool.and_false,Nat.reduceAdd,Qj,Qu,Nat.le_refl,Nat.lt_add_one,List.take_zero,List.take_succ_cons,ns,h2]
  ·rw [QE,QE]
   simp only [Qah,Qag,Qbd,Qcg,Qfr,Qet,Qeh,Qcx,Qcz,Qhj,Qgc,Qan,Qgo,Qgn,Qgs,Qhc,Qcr,Qck,Qcj,Qfv,decide_false,Bool.not_false,List.drop_zero,List.length_cons,Nat.add_zero,Nat.zero_add,Bool.and_true,Bool.false_and,Qj,Qu,Nat.le_refl,Nat.lt_add_one,h1]
theorem AB (x : X) (H : Qa) : E WI [Qd x] H = some (.ret (Qd (Jh x)),H) := by
 rw [QhA,XC]
 cases x with
 | mk k s ks =>
  rw [UH]
  have b1 := bXk 1
  by_cases h0 : k = 0
  ·subst h0
   rw [QE]
   simp only [Qah,Qag,Qbd,Qet,Qeb,Qcx,Qcz,Qhj,Qan,Qgo,Qgn,Qgs,Qgy,Qhc,Qdi,Qdo,Qdt,Qde,Qdd,Qdc,Qhh,Qhf,Qcr,Qck,Qcj,Qcn,Qfv,Qhi,Qgb,Qga,Qbe,Qbx,Qce,Qca,Qbt,Qdb,Qda,decide_true,if_true,List.drop_zero,List.drop_succ_cons,List.length_cons,List.length_nil,Nat.add_zero,Nat.zero_add,Option.bind_some,Option.map_some,Bool.and_true,List.append_nil,Nat.reduceAdd,Qj,Qz,List.drop_nil,Qu,Nat.le_refl,Nat.lt_add_one,Nat.zero_le,or_true,true_or,and_true,and_self,Nat.max_self,List.take_zero,List.take_succ_cons,b1]
   rfl
  ·by_cases h1 : k = 1
   ·subst h1
    rw [QE]
    simp only [Qah,Qag,Qbd,Qbc,Qet,Qeb,Qcx,Qcz,Qhj,Qan,Qgo,Qgn,Qgs,Qgy,Qhc,Qdi,Qdo,Qdt,Qde,Qdd,Qdc,Qhh,Qhf,Qcr,Qck,Qcj,Qcn,Qfv,Qhi,Qgb,Qga,Qbe,Qbx,Qce,Qca,Qbt,Qdb,Qda,decide_true,decide_false,if_true,List.drop_zero,List.drop_succ_cons,List.length_cons,List.length_nil,Nat.add_zero,Nat.zero_add,Option.bind_some,Option.map_some,Bool.and_true,List.append_nil,Nat.reduceAdd,Qj,Qz,List.drop_nil,Qu,Nat.le_refl,Nat.lt_add_one,Nat.zero_le,or_true,true_or,and_true,and_self,Nat.max_self,List.take_zero,List.take_succ_cons,h0,b1]
    rfl
   ·by_cases h5 : k = 5
    ·subst h5
     rw [if_neg (by decide),if_pos rfl]
     have q := Qbl H.length (.mk 5 s ks)
     rw [QE] at q ⊢
     simp only [Qdi,Qdt,Qde,Qdd,Qdc,Qgb,Qga,Qbe,Qbx,Qce,Qbt,Qdb,Qda,if_true,Option.bind_some,Option.map_some,Nat.reduceAdd,Nat.zero_le,Nat.max_self] at q
     simp only [Qah,Qag,Qbd,Qbc,Qet,Qeb,Qcx,Qcz,Qhj,Qan,Qgo,Qgn,Qgs,Qgy,Qhc,Qdi,Qdt,Qde,Qdd,Qdc,Qhh,Qhf,Qcr,Qck,Qcj,Qcn,Qfv,Qhi,Qem,Qgb,Qga,Qbe,Qbx,Qce,Qbt,Qdb,Qda,decide_true,decide_false,if_true,List.drop_zero,List.drop_succ_cons,List.length_cons,List.length_nil,Nat.add_zero,Nat.zero_add,Option.bind_some,Option.map_some,Bool.and_true,List.append_nil,Nat.reduceAdd,Qj,Qz,List.drop_nil,Qu,Nat.le_refl,Nat.lt_add_one,Nat.zero_le,true_or,and_true,and_self,Nat.max_self,List.take_zero,List.take_succ_cons,h0,h1,q]
    ·rw [if_neg (by simp [h0,h1]),if_neg h5]
     have lt := Qfe (.agg [.int .i64 0,.int .u64 0,.int .u64 0,.int .u64 0,.int .u64 0,.vs []]) (.mk k s ks)
     have b := bXv 5 [Qd (.mk k s ks)]
     have q := Qbl H.length (.mk 5 S4.zero [.mk k s ks])
     have e5 : Qd (.mk 5 S4.zero [.mk k s ks]) = .agg [.int .i64 5,.int .u64 0,.int .u64 0,.int .u64 0,.int .u64 0,.vs [Qd (.mk k s ks)]] := rfl
     rw [e5] at q ⊢
     rw [QE] at lt b q ⊢
     simp only [Qdi,Qdt,Qde,Qdd,Qdc,Qgb,Qga,Qbe,Qbx,Qce,Qbt,Qdb,Qda,if_true,Option.bind_some,Option.map_some,Nat.reduceAdd,Nat.zero_le,Nat.max_self] at q
     simp only [Qah,Qag,Qbc,Qet,Qeb,Qcx,Qcz,Qhj,Qan,Qgo,Qgn,Qgs,Qgy,Qhc,Qdi,Qdt,Qde,Qdd,Qdc,Qhh,Qhf,Qcr,Qck,Qcj,Qcn,Qfv,Qhi,Qem,Qgb,Qga,Qbe,Qbx,Qce,Qbt,Qdb,Qda,decide_false,if_true,List.drop_zero,List.drop_succ_cons,List.length_cons,List.length_nil,Nat.add_zero,Nat.zero_add,Option.bind_some,Option.map_some,Bool.and_true,List.append_nil,Nat.reduceAdd,Qj,Qz,List.drop_nil,Qu,Nat.le_refl,Nat.lt_add_one,Nat.zero_le,true_or,and_true,and_self,Nat.max_self,List.take_zero,List.take_succ_cons,h0,h1,h5]
     rw [Tg]
     simp only [Qah,Qag,Qcx,Qcz,Qan,Qgo,Qgn,Qgs,Qhc,Qdi,Qdt,Qde,Qdd,Qdc,Qhh,Qhf,Qcr,Qck,Qcj,Qcn,Qhi,Qgb,Qga,Qbe,Qbx,Qce,Qbt,Qdb,Qda,if_true,List.drop_zero,List.drop_succ_cons,List.length_cons,List.length_nil,Nat.zero_add,Option.bind_some,Option.map_some,Bool.and_true,List.append_nil,Nat.reduceAdd,Qj,Qz,List.drop_nil,Qu,Nat.le_refl,Nat.lt_add_one,Nat.zero_le,true_or,and_true,and_self,Nat.max_self,List.take_zero,List.take_succ_cons,lt,b,q]
theorem X5 {sz : Nat} {z x y : V} (hx : x.cells.length = sz) (hs : Qv x.cells = true) (hc : x.nrm.clean = true) (hy : y.cells.length = sz) (ht : Qv y.cells = true) (hd : y.nrm.clean = true) : Zq sz 2 z [(0,x),(1,y)] = some (.vs [x.nrm,y.nrm]) := by
 rw [WA]
 simp [Ba,Wh,hx,hs,hc,hy,ht,hd,J3,List.range,List.range.loop]
theorem QiB (z : V) (x y : X) : Zq 6 2 z [(0,Qd x),(1,Qd y)] = some (.vs (Qw [x,y])) := by
 rw [X5 (by simp) (by simp) (by rw [Ub]; exact NY x) (by simp) (by simp) (by rw [Ub]; exact NY y),Ub,Ub]; rfl
theorem Qlq {s t : S4} {lo hi : Int} (h : S4.rng s lo hi) (g : S4.rng t lo hi) : s = t := S4.ext h.1 g.1 fun i hi => by rw [h.2 i hi,g.2 i hi]
theorem Qsa {s : S4} {lo hi : Int} (h : S4.rng s lo hi) (H : Qa) : E BH [.int .i64 lo,.int .i64 hi] H = some (.ret (encS s),H) := by
 obtain ⟨r,h1,h2⟩ := Tt lo hi H
 rw [Qlq h h1]; exact h2
theorem Qn3 {s : S4} {lo hi : Int} (h : S4.rng s lo hi) (H : Qa) : E EG [.int .i64 lo,.int .i64 hi] H = some (.ret (Qd (.mk 2 s [])),H) := by
 have o := fun G => Qsa h G
 have b := bXs 2 s
 rw [QpL,Qjw]
 simp only [Qah,Qag,Qab,Qcx,Qcz,Qan,Qgo,Qgn,Qgs,Qgy,Qdi,Qdo,Qdt,Qde,Qdd,Qdc,Qhh,Qhf,Qcr,Qcj,Qcn,Qfv,Qhi,Qgb,Qga,Qbe,Qbx,Qca,Qbt,Qdb,Qda,if_true,List.drop_zero,List.drop_succ_cons,List.length_cons,List.length_nil,Nat.zero_add,Option.bind_some,Option.map_some,Bool.and_true,List.append_nil,Nat.reduceAdd,Qj,Qz,List.drop_nil,Qu,Nat.le_refl,Nat.zero_le,or_true,and_self,Nat.max_self,List.take_zero,List.take_succ_cons,o,b]
 rfl
end Go.Proofs.YtdnmpaielmfiiaaDoor
end
