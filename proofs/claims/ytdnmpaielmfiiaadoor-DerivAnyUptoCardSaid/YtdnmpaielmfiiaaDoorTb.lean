/- Tb: a part of the proof that each law of this seat answers true at every input. No condition. -/
import Derived.Test.YtdnmpaielmfiiaaDoorTa
set_option linter.unusedVariables false
set_option linter.unusedSimpArgs false
set_option maxRecDepth 20000
section
namespace Go.Proofs.YtdnmpaielmfiiaaDoor
open Go Go.Ev Go.X7
set_option maxRecDepth 20000
theorem CG {i v n a : Nat} (h : a ≤ n) : JP 6 (.rs i v 6 0 n) (some (.int .i64 (a : Int))) none none = some (.rs i v 6 a (n - a)) := by
 rw [Uy]
 simp [Vf,QY,h]
theorem XV {i v n a : Nat} (h : a ≤ n) : JP 6 (.rs i v 6 0 n) none (some (.int .i64 (a : Int))) none = some (.rs i v 6 0 a) := by
 rw [Uy]
 simp [Vf,QY,h]
theorem N0 : ∀ n,Qv (Q7 n zX) = true ∧ Q0 (Q7 n zX) = 0 ∧ (Q7 n zX).length = n * 6
 | 0 => ⟨rfl,rfl,rfl⟩
 | n + 1 => by
  obtain ⟨h1,h2,h3⟩ := N0 n
  refine ⟨by rw [Q7,Fc,h1]; rfl,?_,by rw [Q7,List.length_append,h3]; simp; omega⟩
  rw [Q7]
  simp only [List.cons_append,List.nil_append,Q0,h2]
  rfl
theorem Tw {base i ver off n : Nat} {G : Qa} {cs : List V} (hg : Qh G i = some (.row ver 6 true cs)) (h : (off + n) * 6 ≤ cs.length) :
  Le base 6 zX (.rs i ver 6 off n) G = some (.tup [],Qn G i (.row ver 6 true (splice cs (off * 6) (Q7 n zX)))) := by
 obtain ⟨h1,h2,h3⟩ := N0 n
 rw [M1]
 by_cases h0 : n = 0
 ·subst h0
  have e : splice cs (off * 6) (Q7 0 zX) = cs := by simp [splice,Q7]
  rw [e,V6 hg]
  simp [NI,Bc]
 ·have hfit : fits base i 0 = true := by simp [fits]
  have h4 : off * 6 + n * 6 ≤ cs.length := by omega
  simp [NI,Bc,h0,VN,h1,h2,h3,hg,hfit,h4]
theorem XZ {M : List X} {rest : List V} {a : Nat} (h : a ≤ M.length) : ∃ rest',splice (Qy M ++ rest) (a * 6) (Q7 (M.length - a) zX) = Qy (M.take a) ++ rest' ∧ rest'.length + a * 6 = rest.length + M.length * 6 := by
 have h3 := (N0 (M.length - a)).2.2
 have h1 : (Qy M ++ rest).take (a * 6) = Qy (M.take a) := by
  have e1 : Qy M = Qy (M.take a) ++ Qy (M.drop a) := by rw [← Ri,List.take_append_drop]
  rw [e1,List.append_assoc,List.take_append_of_le_length (by rw [Z7,List.length_take]; omega),List.take_of_length_le (by rw [Z7,List.length_take]; omega)]
 refine ⟨Q7 (M.length - a) zX ++ (Qy M ++ rest).drop (a * 6 + (M.length - a) * 6),?_,?_⟩
 ·unfold splice
  rw [h1,h3,List.append_assoc]
 ·rw [List.length_append,h3,List.length_drop,List.length_append,Z7]
  omega
theorem Ac {H : Qa} {i c ver : Nat} {k : Int} {l : List X} {rest : List V} (hi : i < H.length) (hc : Qh H c = some (.var [.int .i64 k])) (hci : c ≠ i) (hl : l.length ≤ 1000000000000) : ∀ (m j a : Nat) (M : List X) (G : Qa),l.length - j = m → j ≤ l.length → a ≤ j → M.length = l.length →
  M.take a = (l.take j).filter (fun x => !decide (x.k = k)) → M.drop j = l.drop j → Up (Qn H i (Q9 ver M rest)) G →
  ∃ rest',RN H.length (.rs i ver 6 0 l.length) (.fn Jd [.ptr c 0 0]) (.int .i64 a) (.int .i64 j) G = some (.ret (.rs i ver 6 0 (l.filter (fun x => !decide (x.k = k))).length),Qn H i (Q9 ver (l.filter (fun x => !decide (x.k = k))) rest')) ∧ rest'.length + (l.filter (fun x => !decide (x.k = k))).length * 6 = rest.length + l.length * 6
 | m,j,a,M,G,hm,hj,ha,hM,ht,hd,hU => by
  rw [Qld]
  have hlenH : (Qn H i (Q9 ver M rest)).length = H.length := by simp
  have hgi : Qh G i = some (Q9 ver M rest) := by rw [hU.get (by rw [hlenH]; exact hi),Qcl hi]
  have hgc : Qh G c = some (.var [.int .i64 k]) := by rw [hU.get (by rw [hlenH]; exact Q3 hc),JR hci,hc]
  have hGl : H.length ≤ G.length := by have := hU.len; rwa [hlenH] at this
  by_cases h : j < l.length
  ·have h' : (j : Int) < (l.length : Int) := by omega
   obtain ⟨m,rfl⟩ : ∃ q,m = q + 1 := ⟨m - 1,by omega⟩
   have w1 : IntKind.i64.wrap ((j : Int) + 1) = ((j + 1 : Nat) : Int) := by rw [wrap_i64 (by omega) (by omega)]; omega
   have w2 : IntKind.i64.wrap ((a : Int) + 1) = ((a + 1 : Nat) : Int) := by rw [wrap_i64 (by omega) (by omega)]; omega
   have hjM : j < M.length := by omega
   have hx : M[j] = l[j] := by
    have e1 := List.drop_eq_getElem_cons hjM
    have e2 := List.drop_eq_getElem_cons h
    rw [hd,e2] at e1
    exact (List.cons.inj e1).1.symm
   have hd1 : M.drop (j + 1) = l.drop (j + 1) := by rw [← List.drop_drop,← List.drop_drop,hd]
   have ix := Vn (i := i) (ver := ver) (sz := 6) (off := 0) (n := l.length) (k := .i64) (j := j) h
   have ta := take_at hjM rest
   rw [hx] at ta
   rw [Nat.zero_add] at ix
   have hG1 : Qh (.var (Qc l[j]).cells :: G) c = some (.var [.int .i64 k]) := by rw [Qck (Q3 hgc)]; exact hgc
   have his := E2 l[j] hG1
   have htk : l.take (j + 1) = l.take j ++ [l[j]] := List.take_succ_eq_append_getElem h
   have j2 : ∀ t G1,LA H.length (.rs i ver 6 0 l.length) (.fn Jd [.ptr c 0 0]) t (.int .i64 j) G1 = RN H.length (.rs i ver 6 0 l.length) (.fn Jd [.ptr c 0 0]) t (.int .i64 ((j + 1 : Nat) : Int)) G1 := fun t G1 => by
    rw [QlH]; simp only [Qah,Qdx,w1]
   obtain ⟨kk,s,ks,e⟩ : ∃ k s ks,l[j] = .mk k s ks := by cases l[j] with | mk k s ks => exact ⟨k,s,ks,rfl⟩
   by_cases hk : l[j].k = k
   ·obtain ⟨rest',ih,hr⟩ := Ac hi hc hci hl m (j + 1) a M (.var (Qc l[j]).cells :: G) (by omega) (by omega) (by omega) hM (by rw [ht,htk,List.filter_append]; simp [hk]) hd1 (hU.cons _)
    refine ⟨rest',?_,hr⟩
    rw [decide_eq_true hk] at his
    rw [e,QE] at ta his
    simp only [Qan] at his
    rw [e,QE,Qan] at ih
    simp only [Qah,Qag,Qab,Qbd,Qbc,Qep,Qfu,Qfb,Qdx,Qef,Qcz,Qcy,Qan,Qgo,Qgn,Qgs,Qgy,Qhc,Qdi,Qdt,Qde,Qdd,Qdc,Qhh,Qhf,Qcj,Qcn,Qfv,Qhi,decide_true,Bool.not_true,if_true,List.drop_zero,List.drop_succ_cons,List.length_cons,List.length_nil,Nat.zero_add,Bool.and_true,List.append_nil,List.nil_append,List.cons_append,Nat.reduceAdd,Qk,QA,List.drop_nil,Qu,Nat.le_refl,Nat.zero_le,or_true,and_self,Nat.max_self,List.take_zero,List.take_succ_cons,h',ix,hgi,ta,his,j2,ih]
   ·have haM : a < M.length := by omega
    obtain ⟨rest',ih,hr⟩ := Ac hi hc hci hl m (j + 1) (a + 1) (M.set a l[j]) (Qn (.var (Qc l[j]).cells :: G) i (Q9 ver (M.set a l[j]) rest)) (by omega) (by omega) (by omega) (by simp [hM])
     (by rw [htk,List.filter_append,← ht,List.take_succ_eq_append_getElem (by simpa using haM),List.getElem_set_self,List.take_set_of_le (Nat.le_refl _)]; simp [hk])
     (by rw [List.drop_set_of_lt (by omega)]; exact hd1)
     (by have := (hU.cons (.var (Qc l[j]).cells)).set_low (i := i) (by simpa using hi) (Q9 ver (M.set a l[j]) rest); rwa [Qcp] at this)
    refine ⟨rest',?_,hr⟩
    have h2 : a < l.length := by omega
    have ix2 := Vn (i := i) (ver := ver) (sz := 6) (off := 0) (n := l.length) (k := .i64) (j := a) h2
    rw [Nat.zero_add] at ix2
    have sa := QcE haM rest l[j]
    have hle : a * 6 + 6 ≤ (Qy M ++ rest).length := by rw [List.length_append,Z7]; omega
    have hGi : i < G.length := by omega
    rw [decide_eq_false hk] at his
    have hb : fits H.length i 0 = true := by simp [fits]
    rw [e,QE] at ta his
    simp only [Qan] at his
    rw [e,QE,Qan] at sa
    rw [e,QE,Qan] at ih
    simp only [Qco,hGi] at ih
    simp only [Qah,Qag,Qab,Qbd,Qep,Qfu,Qfb,Qdx,Qef,Qcz,Qcy,Qan,Qgo,Qgn,Qgs,Qgy,Qhc,Qdi,Qdt,Qde,Qdd,Qdc,Qhh,Qhg,Qhf,Qck,Qco,Qcj,Qcn,Qfv,Qhi,decide_true,Bool.not_false,if_true,List.drop_zero,List.drop_succ_cons,List.length_cons,List.length_nil,Nat.zero_add,Bool.and_true,List.append_nil,List.nil_append,List.cons_append,Nat.reduceAdd,Qk,QA,List.drop_nil,Qu,Nat.le_refl,Nat.zero_le,or_true,and_true,and_self,Nat.max_self,List.take_zero,List.take_succ_cons,h',ix,hgi,ta,his,ix2,sa,hle,w2,j2,ih,hGi,hb]
  ·have h' : ¬ (j : Int) < (l.length : Int) := by omega
   rw [List.take_of_length_le (show l.length ≤ j by omega)] at ht
   have haM : a ≤ M.length := by omega
   have hln : (l.filter (fun x => !decide (x.k = k))).length = a := by rw [← ht,List.length_take]; omega
   obtain ⟨rest',e1,e2⟩ := XZ (rest := rest) haM
   refine ⟨rest',?_,by rw [hln,e2,hM]⟩
   have hcl := Tw (base := H.length) (off := a) (n := l.length - a) hgi (by rw [List.length_append,Z7]; omega)
   rw [← hM,e1,ht] at hcl
   rw [← hM] at h' ⊢
   have hT := (hU.set_low (i := i) (by simpa using hi) (Q9 ver (l.filter (fun x => !decide (x.k = k))) rest')).trunc
   rw [Qcp,JF] at hT
   have hmr : ¬ H.length < i + 1 := by omega
   have hrt : rt true H.length (.rs i ver 6 0 a) (Qn G i (Q9 ver (l.filter (fun x => !decide (x.k = k))) rest')) = some (.ret (.rs i ver 6 0 a),Qn H i (Q9 ver (l.filter (fun x => !decide (x.k = k))) rest')) := by
    rw [R7,if_pos (by simp only [V.maxRef]; exact hi),hT]
   rw [hln]
   simp only [Qah,Qag,Qbc,Qep,Qfb,Qdx,Qef,Qan,Qgo,Qgn,Qgs,Qgy,Qhh,Qhf,Qcj,Qcn,Qfv,decide_false,List.length_cons,List.length_nil,Nat.zero_add,Bool.and_true,List.nil_append,List.cons_append,Nat.reduceAdd,Qk,QA,Nat.le_refl,and_true,and_self,h',CG haM,hcl,XV haM,hrt]
end Go.Proofs.YtdnmpaielmfiiaaDoor
end
section
namespace Go.Proofs.YtdnmpaielmfiiaaDoor
open Go Go.Ev Go.X7
set_option maxRecDepth 20000
abbrev Z2 (k : Int) (l : List X) : List X := l.filter (fun x => !decide (x.k = k))
inductive Rw (H : Qa) : V → List X → Prop where
 | nils : Rw H .nils []
 | rs (i ver : Nat) (l : List X) (rest : List V) (h : Qh H i = some (Q9 ver l rest)) : Rw H (.rs i ver 6 0 l.length) l
theorem Rw.sl {H : Qa} {v : V} {l : List X} (h : Rw H v l) : Sl H v l := by
 cases h with
 | nils => exact .nils
 | rs i ver l rest h => exact .rs i ver l rest h
theorem Out7.rw {base : Nat} {H : Qa} {v : V} {l : List X} (h : Out7 base H v l) : Rw H v l := by
 cases h with
 | nils => exact .nils
 | rs i ver l hb h => exact .rs i ver l [] (by rw [h]; simp [Q9])
theorem ET {H : Qa} {i c ver : Nat} {k : Int} {l : List X} {rest : List V} (hg : Qh H i = some (Q9 ver l rest)) (hc : Qh H c = some (.var [.int .i64 k])) (hl : l.length ≤ 1000000000000) :
  ∃ rest',E U2 [.rs i ver 6 0 l.length,.fn Jd [.ptr c 0 0]] H = some (.ret (.rs i ver 6 0 (Z2 k l).length),Qn H i (Q9 ver (Z2 k l) rest')) ∧ rest'.length + (Z2 k l).length * 6 = rest.length + l.length * 6 := by
 have hi := Q3 hg
 have hci : c ≠ i := by rintro rfl; rw [hg] at hc; cases hc
 obtain ⟨r,r1,r2⟩ := D6 (Sl.rs i ver l rest hg) hl (f := Jd) (cap := [.ptr c 0 0]) (q := fun x => decide (x.k = k)) (fun x _ => E2 x hc)
 rcases r2 with ⟨rfl,h⟩ | ⟨j,rfl,h,h2,h3⟩
 ·have e : Z2 k l = l := by
   refine List.filter_eq_self.2 fun x hx => ?_
   have := List.any_eq_false.1 h x hx
   simpa using this
  rw [e]
  refine ⟨rest,?_,rfl⟩
  have hrt : rt true H.length (.rs i ver 6 0 l.length) H = some (.ret (.rs i ver 6 0 l.length),H) := by
   rw [R7,if_pos (by simp only [V.maxRef]; exact hi),Qcx]
  rw [E6,A8,V6 hg]
  simp only [Qah,Qab,Qbd,Qdx,Qeb,decide_true,Int.reduceAdd,r1,hrt]
 ·have hj1 : IntKind.i64.wrap ((j : Int) + 1) = ((j + 1 : Nat) : Int) := by rw [wrap_i64 (by omega) (by omega)]; omega
  have hk : l[j].k = k := by simpa using h2
  have hne : ¬ (j : Int) = -1 := by omega
  obtain ⟨rest',e1,e2⟩ := Ac (ver := ver) (k := k) (l := l) (rest := rest) hi hc hci hl (l.length - (j + 1)) (j + 1) j l H rfl (by omega) (by omega) rfl (by
   rw [List.take_succ_eq_append_getElem h,List.filter_append]
   have e : (l.take j).filter (fun x => !decide (x.k = k)) = l.take j := by
    refine List.filter_eq_self.2 fun x hx => ?_
    have := List.any_eq_false.1 h3 x hx
    simpa using this
   rw [e]
   simp [hk]) rfl (by rw [V6 hg]; exact Up.refl _)
  refine ⟨rest',?_,e2⟩
  rw [E6,A8]
  simp only [Qah,Qab,Qbc,Qdx,Qeb,decide_false,r1,hne,hj1,e1]
theorem EI {H : Qa} {c : Nat} {k : Int} : E U2 [.nils,.fn Jd [.ptr c 0 0]] H = some (.ret .nils,H) := by
 obtain ⟨r,r1,r2⟩ := D6 (H := H) Sl.nils (by simp) (f := Jd) (cap := [.ptr c 0 0]) (q := fun x => decide (x.k = k)) (fun x hx => by simp at hx)
 rcases r2 with ⟨rfl,h⟩ | ⟨j,rfl,h,-⟩
 ·have hrt : rt true H.length .nils H = some (.ret .nils,H) := by
   rw [R7,if_pos (by simp [V.maxRef]),Qcx]
  rw [E6,A8]
  simp only [Qah,Qab,Qbd,Qdx,Qeb,decide_true,Int.reduceAdd,r1,hrt]
 ·simp at h
theorem Qid {H0 H : Qa} {v : V} {c : Nat} {k : Int} {l : List X} (h : Rw H v l) (hb : ∀ i ver n,v = .rs i ver 6 0 n → H0.length ≤ i) (hU : Up H0 H) (hc : Qh H c = some (.var [.int .i64 k])) (hl : l.length ≤ 1000000000000) :
  ∃ v' G,E U2 [v,.fn Jd [.ptr c 0 0]] H = some (.ret v',G) ∧ Rw G v' (Z2 k l) ∧ (∀ i ver n,v' = .rs i ver 6 0 n → H0.length ≤ i) ∧ Up H0 G ∧
   (∀ j,H0.length ≤ j → (∃ b,Qh H j = some (.var b)) → Qh G j = Qh H j) ∧ (v = .nils → v' = .nils) := by
 cases h with
 | nils => exact ⟨.nils,H,EI (k := k),.nils,fun i ver n e => (nomatch e),hU,fun j _ _ => rfl,fun _ => rfl⟩
 | rs i ver l rest hg =>
  obtain ⟨rest',e1,e2⟩ := ET hg hc hl
  have hbi := hb i ver _ rfl
  refine ⟨_,_,e1,.rs i ver _ rest' (Qcl (Q3 hg)),fun i' ver' n e => by cases e; exact hbi,hU.set hbi _,fun j _ ⟨b,hj⟩ => ?_,fun e => by cases e⟩
  have : j ≠ i := by rintro rfl; rw [hg] at hj; cases hj
  rw [JR this]
theorem Qoi {G : Qa} {base n i ver : Nat} {l : List X} {rest : List V} (hg : Qh G i = some (Q9 ver l rest)) (hb : base ≤ i) : frz G base (n + 1 + 1) (.rs i ver 6 0 l.length) = some (.vs (Qw l)) := by
 have h1 : (List.drop (0 * 6) (Qy l ++ rest)).take (l.length * 6) = Qy l := by
  rw [Nat.zero_mul,List.drop_zero,List.take_append_of_le_length (by rw [Z7]; exact Nat.le_refl _),List.take_of_length_le (by rw [Z7]; exact Nat.le_refl _)]
 have h2 : Ye (frz G base (n + 1)) (Qy l) = some (Qy l) := FT fun c hc => C6 (ZY.cellsF_plain l c hc)
 have h3 := ZY.cellsF_clean l
 have h4 := ZY.cellsF_scal l
 have h5 : (0 + l.length) * 6 ≤ (Qy l ++ rest).length := by rw [List.length_append,Z7]; omega
 have h6 := ZY.chunk l
 rw [frz]
 simp only [Nat.not_lt.2 hb,if_false,hg,Q9,h1,h2,h3,h4,h5,h6,true_and,and_true,Nat.reduceLT,if_true,Option.bind_some,true_or,Kv]
def ofV (v : V) (l : List X) (kind none : Int) : V := match l with
 | [] => Qc (.mk none S4.zero [])
 | [x] => Qc x
 | _ => .agg [.int .i64 kind,.int .u64 0,.int .u64 0,.int .u64 0,.int .u64 0,v]
theorem bXr (k : Int) (i ver sz off n : Nat) : Zj zX [(0,1),(1,4),(5,1)] [(0,.int .i64 k),(2,.rs i ver sz off n)] = some (.agg [.int .i64 k,.int .u64 0,.int .u64 0,.int .u64 0,.int .u64 0,.rs i ver sz off n]) := by simp [splice]
theorem AH {H : Qa} {v : V} {l : List X} (h : Sl H v l) (kind none : Int) : E LI [v,.int .i64 kind,.int .i64 none] H = some (.ret (ofV v l kind none),H) := by
 rw [Qqc,Qrb]
 match l,h with
 | [],h =>
  have hlen : QM v = some (.int .i64 0) := h.len
  have b := bXk none
  simp only [Qah,Qag,Qbd,Qeb,Qcx,Qcz,Qan,Qgo,Qgn,Qgs,Qgy,Qdi,Qdo,Qdt,Qde,Qdd,Qdc,Qhh,Qhf,Qcr,Qcj,Qcn,Qfv,Qhi,Qgb,Qga,Qbe,Qbx,Qca,Qbt,Qdb,Qda,decide_true,if_true,List.drop_zero,List.drop_succ_cons,List.length_cons,List.length_nil,Nat.zero_add,Option.bind_some,Option.map_some,Bool.and_true,List.append_nil,Nat.reduceAdd,Qk,QA,List.drop_nil,Qu,Nat.le_refl,Nat.zero_le,or_true,and_self,Nat.max_self,List.take_zero,List.take_succ_cons,hlen,b]
  rfl
 | [x],h =>
  have hlen : QM v = some (.int .i64 1) := h.len
  have e : ¬ (1 : Int) = 0 := by decide
  obtain ⟨p,p0,p5,q1,q2,-⟩ := (h.up ((Up.refl H).cons (.var zX))).at (j := 0) (by simp)
  simp only [Qam,List.getElem_cons_zero] at q1 q2
  simp only [Qah,Qag,Qbd,Qbc,Qeb,Qcx,Qcz,Qan,Qgo,Qgn,Qgs,Qgy,Qhh,Qhf,Qcr,Qcj,Qcn,Qfv,Qhi,Qem,Qbg,Qbm,Qbj,Qbf,Qbo,Qbl,decide_true,decide_false,if_true,List.drop_zero,List.drop_succ_cons,List.length_cons,List.length_nil,Nat.zero_add,Bool.and_true,List.append_nil,Nat.reduceAdd,Qk,QA,List.drop_nil,Qu,Nat.le_refl,Nat.zero_le,or_true,and_self,hlen,e,q1,q2,ofV]
 | x :: y :: l,h =>
  obtain ⟨n,hn⟩ : ∃ n : Int,n = (((x :: y :: l).length : Nat) : Int) := ⟨_,rfl⟩
  have hlen : QM v = some (.int .i64 n) := by rw [hn]; exact h.len
  have e : ¬ n = 0 := by simp only [List.length_cons] at hn; omega
  have e2 : ¬ n = 1 := by simp only [List.length_cons] at hn; omega
  generalize hL : x :: y :: l = L at h hn
  cases h with
  | nils => cases hL
  | vs =>
   have b := bXv kind (Qw L)
   simp only [Qah,Qag,Qbc,Qeb,Qcx,Qcz,Qan,Qgo,Qgn,Qgs,Qgy,Qhc,Qdi,Qdt,Qde,Qdd,Qdc,Qhh,Qhf,Qcr,Qcj,Qcn,Qfv,Qhi,Qgb,Qga,Qbe,Qbx,Qce,Qbt,Qdb,Qda,decide_false,if_true,List.drop_zero,List.drop_succ_cons,List.length_cons,List.length_nil,Nat.zero_add,Option.bind_some,Option.map_some,Bool.and_true,List.append_nil,Nat.reduceAdd,Qk,QA,List.drop_nil,Qu,Nat.le_refl,Nat.zero_le,or_true,and_self,Nat.max_self,List.take_zero,List.take_succ_cons,hlen,e,e2,b]
   subst hL
   rfl
  | rs i ver _ rest hg =>
   have b := bXr kind i ver 6 0 L.length
   have hi := Q3 hg
   have hfr : ∀ G,frz G H.length 11 (.rs i ver 6 0 L.length) = some (.rs i ver 6 0 L.length) := fun G => by
    rw [frz]; simp only [hi,if_true]
   have hm2 : i + 1 ≤ H.length := hi
   have hm : (V.agg [.int .i64 kind,.int .u64 0,.int .u64 0,.int .u64 0,.int .u64 0,.rs i ver 6 0 L.length]).maxRef = i + 1 := by simp [V.maxRef,Q0]
   have hr : ∀ G,rt false H.length (.agg [.int .i64 kind,.int .u64 0,.int .u64 0,.int .u64 0,.int .u64 0,.rs i ver 6 0 L.length]) G = some (.ret (.agg [.int .i64 kind,.int .u64 0,.int .u64 0,.int .u64 0,.int .u64 0,.rs i ver 6 0 L.length]),Q2 G H.length) := fun G => by
    rw [Qgb,Qbe,Qbt]
    simp only [Qda,Qdb,Qbx,hfr,Option.bind_some,Option.map_some,Qga,hm]
    rw [if_pos hm2]
   simp only [Qah,Qag,Qbc,Qeb,Qcx,Qcz,Qan,Qgo,Qgn,Qgs,Qgy,Qha,Qdi,Qdq,Qde,Qdd,Qdc,Qhh,Qhf,Qcr,Qcj,Qcn,Qfv,Qhi,decide_false,if_true,List.drop_zero,List.drop_succ_cons,List.length_cons,List.length_nil,Nat.zero_add,Bool.and_true,List.append_nil,Nat.reduceAdd,Nat.reduceLeDiff,Qk,QA,List.drop_nil,Nat.le_refl,true_or,and_self,Nat.zero_max,Nat.max_zero,List.take_zero,List.take_succ_cons,hlen,e,e2,b,hr]
   subst hL
   rfl
theorem AJ {H G : Qa} {v : V} {l : List X} (h : Rw G v l) (hb : ∀ i ver n,v = .rs i ver 6 0 n → H.length ≤ i) (hU : Up H G) (kind none : Int) : rt false H.length (ofV v l kind none) G = some (.ret (Qc (ofL l kind none)),H) := by
 match l,h with
 | [],h => simp only [ofV,ofL,Qbl,hU.trunc]
 | [x],h => simp only [ofV,ofL,Qbl,hU.trunc]
 | x :: y :: l,h =>
  simp only [ofV,ofL]
  generalize hL : x :: y :: l = L at h
  cases h with
  | nils => cases hL
  | rs i ver _ rest hg =>
   have hf := Qoi (base := H.length) (n := 9) hg (hb i ver _ rfl)
   rw [Qgb,Qbe,Qbt]
   simp only [Qda,Qdb,Qbx,hf,Option.bind_some,Option.map_some,Qga]
   rw [if_pos (by simp [V.maxRef,Q0]),hU.trunc]
   rfl
theorem Dh {v : V} (hv : v.scal = true) (l : List X) (kind none : Int) : (ofV v l kind none).cells.length = 6 ∧ Qv (ofV v l kind none).cells = true ∧ ZJ true 6 (ofV v l kind none).cells = some (ofV v l kind none) := by
 unfold ofV
 split
 ·exact ⟨by simp,by simp,Zo _⟩
 ·exact ⟨by simp,by simp,Zo _⟩
 ·exact ⟨rfl,by simp only [Qan,Qv,hv,Bool.and_true]; rfl,rfl⟩
theorem Rw.scal {H : Qa} {v : V} {l : List X} (h : Rw H v l) : v.scal = true := by cases h <;> rfl
theorem YT {H G : Qa} {t : Nat} (ht : H.length ≤ t) {cs : List V} (hc : cs.length = 6) (hg : Qh G t = some (.var cs)) {x : V} (h6 : x.cells.length = 6) (hs : Qv x.cells = true) :
  Qs H.length 6 G (.ptr t 0 0) x = some (.tup [],Qn G t (.var x.cells)) := by
 rw [QA,hg,Qhh]
 have hfit : fits H.length t x.maxRef = true := by simp [fits,ht]
 have hsp : splice cs 0 x.cells = x.cells := by simp [splice,h6,hc]
 simp only [h6,hs,hc,hsp,Nat.zero_add,Nat.le_refl,and_self,if_true,true_and,true_or,hfit,ht]
theorem Tp {H : Qa} {v : V} {l : List X} (hv : Sl H v l) (hn : Qj l ≤ 30000000000) : E Px [v] H = some (.ret (Qc (Q8 l)),H) := by
 have hfl := PS (k := 3) l
 have hll := Yp l
 have hfl' : (flatK 3 l).length ≤ 1000000000000 := by omega
 rw [Qqs,Qk5]
 obtain ⟨v1,G1,a1,a2,a3⟩ := TE (k := 3) (hv.up ((Up.refl H).cons (.var zX))) (by omega) (by omega)
 have hU1 : Up H G1 := ((Up.refl H).cons _).trans a3
 have hH1 : Qh G1 H.length = some (.var zX) := by rw [a3.get (by simp)]; simp
 have i1 := GH 0 G1
 have hU2 := hU1.cons (.var [.int .i64 0])
 have a4 := (a2.up ((Up.refl G1).cons (.var [.int .i64 0])))
 have ct := Ap a4.sl (by omega) (f := Jd) (cap := [.ptr G1.length 0 0]) (q := fun x => decide (x.k = 0)) (fun x _ => E2 x (by simp))
 have b0 := bXk 0
 have hGl := hU1.len
 have hH2 : ∀ b,Qh (b :: G1) H.length = some (.var zX) := fun b => by rw [Qck (Q3 hH1)]; exact hH1
 unfold Q8
 cases hany : (flatK 3 l).any (fun x => decide (x.k = 0)) with
 | true =>
  rw [hany] at ct
  rw [if_pos rfl]
  have st := YT (H := H) (G := .var [.int .i64 0] :: G1) (t := H.length) (Nat.le_refl _) (cs := zX) rfl (hH2 _) (x := .agg [.int .i64 0,.int .u64 0,.int .u64 0,.int .u64 0,.int .u64 0,.nils]) rfl rfl
  have hT := (hU2.set (i := H.length) (Nat.le_refl _) (.var [.int .i64 0,.int .u64 0,.int .u64 0,.int .u64 0,.int .u64 0,.nils])).trunc
  have hlt : H.length < G1.length + 1 := by omega
  simp only [Qah,Qag,Qab,Qbd,Qan,Qgo,Qgn,Qgs,Qgy,Qfv,Bool.and_true,Qk,a1,i1,ct,b0,st]
  have hs : Qh (Qn (.var [.int .i64 0] :: G1) H.length (.var [.int .i64 0,.int .u64 0,.int .u64 0,.int .u64 0,.int .u64 0,.nils])) H.length = some (.var [.int .i64 0,.int .u64 0,.int .u64 0,.int .u64 0,.int .u64 0,.nils]) := Qcl (by simpa using hlt)
  simp only [Qah,Qcz,Qdi,Qdt,Qde,Qdd,Qdc,Qhi,Qgb,Qga,Qbe,Qbx,Qca,Qbt,Qdb,Qda,if_true,List.drop_zero,List.length_cons,List.length_nil,Nat.zero_add,Option.bind_some,Option.map_some,Nat.reduceAdd,Nat.le_refl,Nat.zero_le,Nat.max_self,List.take_zero,List.take_succ_cons,hs,hT]
  rfl
 | false =>
  rw [hany] at ct
  rw [if_neg (by simp)]
  have i2 := GH 1 (.var [.int .i64 0] :: G1)
  have hU3 := hU2.cons (.var [.int .i64 1])
  have a5 := a4.up ((Up.refl _).cons (.var [.int .i64 1]))
  clear a2 a4 hany hn hfl
  have hfl : (flatK 3 l).length ≤ 1000000000000 := hfl'
  generalize flatK 3 l = fl at *
  obtain ⟨v3,G3,d1,d2,d3,d4,d5,-⟩ := Qid (H0 := (.var zX :: H : Qa)) (k := 1) (c := (.var [.int .i64 0] :: G1 : Qa).length) a5.rw (fun i ver n e => by
   cases a5 with
   | nils => cases e
   | rs i' ver' _ hb hg => cases e; exact hb) ((a3.cons _).cons _) (by simp) (by omega)
  have hU4 : Up H G3 := ((Up.refl H).cons _).trans d4
  have o1 := AH d2.sl 3 1
  have hH3 : Qh G3 H.length = some (.var zX) := by rw [d4.get (by simp)]; simp
  obtain ⟨s1,s2,s3⟩ := Dh d2.scal (Z2 1 (fl)) 3 1
  have st := YT (H := H) (G := G3) (t := H.length) (Nat.le_refl _) (cs := zX) rfl hH3 s1 s2
  have hne : ∀ i ver n,v3 = .rs i ver 6 0 n → H.length ≤ i := fun i ver n e => by have := d3 i ver n e; simp only [List.length_cons] at this; omega
  have d6 : Rw (Qn G3 H.length (.var (ofV v3 (Z2 1 (fl)) 3 1).cells)) v3 (Z2 1 (fl)) := by
   generalize Z2 1 (fl) = L at d2 ⊢
   cases d2 with
   | nils => exact .nils
   | rs i ver _ rest hg =>
    have := d3 i ver _ rfl
    simp only [List.length_cons] at this
    exact .rs i ver _ rest (by rw [JR (by omega)]; exact hg)
  have rr := AJ d6 hne (hU4.set (i := H.length) (Nat.le_refl _) _) 3 1
  have hs : Qh (Qn G3 H.length (.var (ofV v3 (Z2 1 (fl)) 3 1).cells)) H.length = some (.var (ofV v3 (Z2 1 (fl)) 3 1).cells) := Qcl (Q3 hH3)
  simp only [List.length_cons] at i2 d1
  simp only [Qah,Qag,Qab,Qbc,Qcz,Qan,Qgo,Qgn,Qgs,Qgy,Qfv,List.drop_zero,Bool.and_true,Qk,a1,i1,ct,i2,d1,o1,st,hs,s3]
  exact rr
end Go.Proofs.YtdnmpaielmfiiaaDoor
end
section
namespace Go.Proofs.YtdnmpaielmfiiaaDoor
open Go Go.Ev Go.X7
set_option maxRecDepth 20000
theorem Qg7 {H : Qa} {v : V} {l : List X} (h : Sl H v l) (h0 : l ≠ []) (kind none : Int) : E F1 [v,.int .i64 kind] H = some (.ret (ofV v l kind none),H) := by
 rw [QmT,Qp3]
 match l,h with
 | [],h => exact absurd rfl h0
 | [x],h =>
  have hlen : QM v = some (.int .i64 1) := h.len
  obtain ⟨p,p0,p5,q1,q2,-⟩ := (h.up ((Up.refl H).cons (.var zX))).at (j := 0) (by simp)
  simp only [Qam,List.getElem_cons_zero] at q1 q2
  simp only [Qah,Qag,Qbd,Qeb,Qcx,Qcz,Qan,Qgo,Qgn,Qgs,Qgy,Qhh,Qhf,Qcr,Qcj,Qcn,Qfv,Qhi,Qem,Qbg,Qbm,Qbj,Qbf,Qbo,Qbl,decide_true,if_true,List.drop_zero,List.drop_succ_cons,List.length_cons,List.length_nil,Nat.zero_add,Bool.and_true,List.append_nil,Nat.reduceAdd,Qk,QA,List.drop_nil,Qu,Nat.le_refl,Nat.zero_le,or_true,and_self,hlen,q1,q2,ofV]
 | x :: y :: l,h =>
  obtain ⟨n,hn⟩ : ∃ n : Int,n = (((x :: y :: l).length : Nat) : Int) := ⟨_,rfl⟩
  have hlen : QM v = some (.int .i64 n) := by rw [hn]; exact h.len
  have e2 : ¬ n = 1 := by simp only [List.length_cons] at hn; omega
  generalize hL : x :: y :: l = L at h hn
  cases h with
  | nils => cases hL
  | vs =>
   have b := bXv kind (Qw L)
   simp only [Qah,Qag,Qbc,Qeb,Qcx,Qcz,Qan,Qgo,Qgn,Qgs,Qgy,Qhc,Qdi,Qdt,Qde,Qdd,Qdc,Qhh,Qhf,Qcr,Qcj,Qcn,Qfv,Qhi,Qgb,Qga,Qbe,Qbx,Qce,Qbt,Qdb,Qda,decide_false,if_true,List.drop_zero,List.drop_succ_cons,List.length_cons,List.length_nil,Nat.zero_add,Option.bind_some,Option.map_some,Bool.and_true,List.append_nil,Nat.reduceAdd,Qk,QA,List.drop_nil,Qu,Nat.le_refl,Nat.zero_le,or_true,and_self,Nat.max_self,List.take_zero,List.take_succ_cons,hlen,e2,b]
   subst hL
   rfl
  | rs i ver _ rest hg =>
   have b := bXr kind i ver 6 0 L.length
   have hi := Q3 hg
   have hfr : ∀ G,frz G H.length 11 (.rs i ver 6 0 L.length) = some (.rs i ver 6 0 L.length) := fun G => by
    rw [frz]; simp only [hi,if_true]
   have hm2 : i + 1 ≤ H.length := hi
   have hm : (V.agg [.int .i64 kind,.int .u64 0,.int .u64 0,.int .u64 0,.int .u64 0,.rs i ver 6 0 L.length]).maxRef = i + 1 := by simp [V.maxRef,Q0]
   have hr : ∀ G,rt false H.length (.agg [.int .i64 kind,.int .u64 0,.int .u64 0,.int .u64 0,.int .u64 0,.rs i ver 6 0 L.length]) G = some (.ret (.agg [.int .i64 kind,.int .u64 0,.int .u64 0,.int .u64 0,.int .u64 0,.rs i ver 6 0 L.length]),Q2 G H.length) := fun G => by
    rw [Qgb,Qbe,Qbt]
    simp only [Qda,Qdb,Qbx,hfr,Option.bind_some,Option.map_some,Qga,hm]
    rw [if_pos hm2]
   simp only [Qah,Qag,Qbc,Qeb,Qcx,Qcz,Qan,Qgo,Qgn,Qgs,Qgy,Qha,Qdi,Qdq,Qde,Qdd,Qdc,Qhh,Qhf,Qcr,Qcj,Qcn,Qfv,Qhi,decide_false,if_true,List.drop_zero,List.drop_succ_cons,List.length_cons,List.length_nil,Nat.zero_add,Bool.and_true,List.append_nil,Nat.reduceAdd,Nat.reduceLeDiff,Qk,QA,List.drop_nil,Nat.le_refl,true_or,and_self,Nat.zero_max,Nat.max_zero,List.take_zero,List.take_succ_cons,hlen,e2,b,hr]
   subst hL
   rfl
theorem X6 {H G : Qa} (hU : Up H G) (hH : Qh G H.length = some (.var zX)) {v : V} {l : List X} (h : Out7 (H.length + 1) G v l) (kind none : Int) :
  ∃ G',Qs H.length 6 G (.ptr H.length 0 0) (ofV v l kind none) = some (.tup [],G') ∧ Qd true 6 G' (.ptr H.length 0 0) = some (ofV v l kind none) ∧ rt false H.length (ofV v l kind none) G' = some (.ret (Qc (ofL l kind none)),H) := by
 obtain ⟨s1,s2,s3⟩ := Dh h.rw.scal l kind none
 have st := YT (H := H) (G := G) (t := H.length) (Nat.le_refl _) (cs := zX) rfl hH s1 s2
 have hs : Qh (Qn G H.length (.var (ofV v l kind none).cells)) H.length = some (.var (ofV v l kind none).cells) := Qcl (Q3 hH)
 refine ⟨_,st,by rw [Qk,hs,Qcz,List.drop_zero,s3],?_⟩
 refine AJ (v := v) (l := l) ?_ ?_ (hU.set (Nat.le_refl _) _) kind none
 ·cases h with
  | nils => exact .nils
  | rs i ver l hb hg => exact .rs i ver l [] (by rw [JR (by omega),hg]; simp [Q9])
 ·intro i ver n e
  cases h with
  | nils => cases e
  | rs i' ver' l hb hg => cases e; omega
theorem Aa {H : Qa} {fl : List X} (hn : fl.length ≤ 1000000000000) : ∀ (m i : Nat),fl.length - i = m → i ≤ fl.length → ∀ (o : V) (G : Qa),Out7 (H.length + 1) G o (Z2 1 (fl.take i)) → (fl.take i).any (fun x => decide (x.k = 0)) = false → Up (.var zX :: H) G →
  Be H.length (.ptr H.length 0 0) (.vs (Qw fl)) o (.int .i64 i) G = some (.ret (Qc (if fl.any (fun x => decide (x.k = 0)) then .mk 0 S4.zero [] else ofL (Z2 1 fl) 3 1)),H)
 | m,i,hm,hi,o,G,ho,hz,hU => by
  have hU0 : Up H G := ((Up.refl H).cons _).trans hU
  have hH : Qh G H.length = some (.var zX) := by rw [hU.get (by simp)]; simp
  rw [QiM]
  by_cases h : i < fl.length
  ·have h' : (i : Int) < (fl.length : Int) := by omega
   obtain ⟨m,rfl⟩ : ∃ j,m = j + 1 := ⟨m - 1,by omega⟩
   have w1 : IntKind.i64.wrap ((i : Int) + 1) = ((i + 1 : Nat) : Int) := by rw [wrap_i64 (by omega) (by omega)]; omega
   obtain ⟨p,p0,p5,q1,q2,q3,q4,-⟩ := (Sl.vs (H := G) fl).at h
   have htk : fl.take (i + 1) = fl.take i ++ [fl[i]] := List.take_succ_eq_append_getElem h
   by_cases k0 : fl[i].k = 0
   ·have ha : fl.any (fun x => decide (x.k = 0)) = true := List.any_eq_true.2 ⟨fl[i],List.getElem_mem h,by simp [k0]⟩
    rw [ha,if_pos rfl]
    have b := bX0
    have st := YT (H := H) (G := G) (t := H.length) (Nat.le_refl _) (cs := zX) rfl hH (x := .agg zX) rfl rfl
    have hs : Qh (Qn G H.length (.var zX)) H.length = some (.var zX) := Qcl (Q3 hH)
    have hT := (hU0.set (i := H.length) (Nat.le_refl _) (.var zX)).trunc
    rw [k0] at q4
    simp only [Qan] at st
    simp only [Qah,Qag,Qbd,Qfc,Qeb,Qeh,Qef,Qcz,Qdi,Qdt,Qde,Qdd,Qdc,Qhi,Qgb,Qga,Qbe,Qbx,Qca,Qbt,Qdb,Qda,Qbp,decide_true,if_true,List.drop_zero,List.length_cons,List.length_nil,Nat.zero_add,Option.bind_some,Option.map_some,Nat.reduceAdd,Qk,Nat.le_refl,Nat.zero_le,Nat.max_self,List.take_zero,List.take_succ_cons,h',q1,q3,q4,b,st,hs,hT]
    rfl
   ·have hz1 : (fl.take (i + 1)).any (fun x => decide (x.k = 0)) = false := by rw [htk,List.any_append,hz]; simp [k0]
    by_cases k1 : fl[i].k = 1
    ·have e : Z2 1 (fl.take (i + 1)) = Z2 1 (fl.take i) := by rw [htk]; unfold Z2; rw [List.filter_append]; simp [k1]
     have ih := Aa hn m (i + 1) (by omega) (by omega) o G (by rw [e]; exact ho) hz1 hU
     have j2 : NJ H.length (.ptr H.length 0 0) (.vs (Qw fl)) o (.int .i64 i) G = Be H.length (.ptr H.length 0 0) (.vs (Qw fl)) o (.int .i64 ((i + 1 : Nat) : Int)) G := by
      rw [Tx]; simp only [Qah,Qdx,w1]
     rw [k1] at q4
     have n10 : ¬ (1 : Int) = 0 := by decide
     simp only [Qah,Qbd,Qbc,Qfc,Qeb,Qeh,Qef,Qen,Qem,Qbp,decide_true,decide_false,Bool.not_true,Qk,QA,h',q1,q3,q4,n10,j2,ih]
    ·have e : Z2 1 (fl.take (i + 1)) = Z2 1 (fl.take i) ++ [fl[i]] := by rw [htk]; unfold Z2; rw [List.filter_append]; simp [k1]
     have hln : (Z2 1 (fl.take i) ++ [fl[i]]).length ≤ 1000000000000 := by
      rw [← e]
      have := List.length_filter_le (fun x : X => !decide (x.k = 1)) (fl.take (i + 1))
      rw [List.length_take] at this
      have h2 : (Z2 1 (fl.take (i + 1))).length = (List.filter (fun x : X => !decide (x.k = 1)) (fl.take (i + 1))).length := rfl
      omega
     have hb : H.length + 1 = (.var zX :: H : Qa).length := rfl
     obtain ⟨v1,G1,a1,a2,a3⟩ := Out7.appB (H := (.var zX :: H : Qa)) (b := H.length) (by simp) ho hU [fl[i]] hln
     have ih := Aa hn m (i + 1) (by omega) (by omega) v1 G1 (by rw [e]; exact a2) hz1 a3
     have j2 : NJ H.length (.ptr H.length 0 0) (.vs (Qw fl)) v1 (.int .i64 i) G1 = Be H.length (.ptr H.length 0 0) (.vs (Qw fl)) v1 (.int .i64 ((i + 1 : Nat) : Int)) G1 := by
      rw [Tx]; simp only [Qah,Qdx,w1]
     have lt := Qfe (.agg [.int .i64 0,.int .u64 0,.int .u64 0,.int .u64 0,.int .u64 0,.vs []]) fl[i]
     simp only [Qw] at a1
     simp only [Qah,Qag,Qbd,Qbc,Qfc,Qeb,Qeh,Qef,Qen,Qem,Qbp,decide_true,decide_false,Bool.not_false,Qk,QA,h',q1,q2,q3,q4,k0,k1,lt,a1,j2,ih]
  ·have h' : ¬ (i : Int) < (fl.length : Int) := by omega
   rw [List.take_of_length_le (by omega)] at ho hz
   rw [hz,if_neg (by simp)]
   obtain ⟨n,hn2⟩ : ∃ n : Int,n = ((Z2 1 fl).length : Int) := ⟨_,rfl⟩
   have hlen := ho.sl.len
   rw [← hn2] at hlen
   obtain ⟨G',s1,s2,s3⟩ := X6 hU0 hH ho 3 1
   by_cases h0 : Z2 1 fl = []
   ·have hn0 : n = 0 := by rw [hn2,h0]; rfl
    have b := bXk 1
    subst hn0
    rw [h0]
    have st := YT (H := H) (G := G) (t := H.length) (Nat.le_refl _) (cs := zX) rfl hH (x := .agg [.int .i64 1,.int .u64 0,.int .u64 0,.int .u64 0,.int .u64 0,.nils]) rfl rfl
    have hs : Qh (Qn G H.length (.var [.int .i64 1,.int .u64 0,.int .u64 0,.int .u64 0,.int .u64 0,.nils])) H.length = some (.var [.int .i64 1,.int .u64 0,.int .u64 0,.int .u64 0,.int .u64 0,.nils]) := Qcl (Q3 hH)
    have hT := (hU0.set (i := H.length) (Nat.le_refl _) (.var [.int .i64 1,.int .u64 0,.int .u64 0,.int .u64 0,.int .u64 0,.nils])).trunc
    simp only [Qan] at st
    simp only [Qah,Qag,Qbd,Qbc,Qfc,Qeb,Qef,Qcz,Qdi,Qdt,Qde,Qdd,Qdc,Qhi,Qen,Qgb,Qga,Qbe,Qbx,Qca,Qbt,Qdb,Qda,Qbp,decide_true,decide_false,if_true,List.drop_zero,List.length_cons,List.length_nil,Nat.zero_add,Option.bind_some,Option.map_some,Nat.reduceAdd,Qk,Nat.le_refl,Nat.zero_le,Nat.max_self,List.take_zero,List.take_succ_cons,h',hlen,b,st,hs,hT]
    rfl
   ·have hn0 : ¬ n = 0 := by have := List.length_pos_iff.2 h0; omega
    have sm := Qg7 ho.sl h0 3 1
    simp only [Qah,Qag,Qab,Qbc,Qfc,Qeb,Qef,Qen,Qem,Qbp,decide_false,h',hlen,hn0,sm,s1,s2,s3]
theorem Nw {H : Qa} {v : V} {l : List X} (hv : Sl H v l) (hn : Qj l ≤ 30000000000) : E VT [v] H = some (.ret (Qc (Q8 l)),H) := by
 have hfl := PS (k := 3) l
 have hll := Yp l
 have f := QdE (k := 3) (hv.up ((Up.refl H).cons (.var zX))) (by omega) (by omega)
 have k := Aa (H := H) (fl := flatK 3 l) (by omega) (flatK 3 l).length 0 rfl (Nat.zero_le _) .nils (.var zX :: H) .nils rfl (Up.refl _)
 simp only [Qam] at k
 rw [QqT,Qnz]
 simp only [Qag,Qab,Qan,Qgo,Qgn,Qgs,Qgy,Qfv,Bool.and_true,f,k,Q8]
end Go.Proofs.YtdnmpaielmfiiaaDoor
end
