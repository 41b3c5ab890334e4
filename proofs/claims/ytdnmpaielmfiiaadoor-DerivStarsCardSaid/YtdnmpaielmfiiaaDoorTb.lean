/- Tb: a part of the proof that each law of this seat answers true at every input. No condition. -/
import Derived.Test.YtdnmpaielmfiiaaDoorTa
set_option linter.unusedVariables false
set_option linter.unusedSimpArgs false
set_option maxRecDepth 20000
section
namespace Go.Proofs.YtdnmpaielmfiiaaDoor
open Go Go.Ev Go.X7
set_option maxRecDepth 20000
theorem Ah {i v n a : Nat} (h : a ≤ n) : JO 6 (.rs i v 6 0 n) (some (.int .i64 (a : Int))) none none = some (.rs i v 6 a (n - a)) := by
 rw [UI]
 simp [Vk,QW,h]
theorem QdO {i v n a : Nat} (h : a ≤ n) : JO 6 (.rs i v 6 0 n) none (some (.int .i64 (a : Int))) none = some (.rs i v 6 0 a) := by
 rw [UI]
 simp [Vk,QW,h]
theorem Mv : ∀ n,Qv (Q7 n zX) = true ∧ QX (Q7 n zX) = 0 ∧ (Q7 n zX).length = n * 6
 | 0 => ⟨rfl,rfl,rfl⟩
 | n + 1 => by
  obtain ⟨h1,h2,h3⟩ := Mv n
  refine ⟨by rw [Q7,FK,h1]; rfl,?_,by rw [Q7,List.length_append,h3]; simp; omega⟩
  rw [Q7]
  simp only [List.cons_append,List.nil_append,QX,h2]
  rfl
theorem QbI {O i ver off n : Nat} {G : Qa} {cs : List V} (hg : Qh G i = some (.row ver 6 true cs)) (h : (off + n) * 6 ≤ cs.length) :
  N7 O 6 zX (.rs i ver 6 off n) G = some (.tup [],Qn G i (.row ver 6 true (splice cs (off * 6) (Q7 n zX)))) := by
 obtain ⟨h1,h2,h3⟩ := Mv n
 rw [ME]
 by_cases h0 : n = 0
 ·subst h0
  have e : splice cs (off * 6) (Q7 0 zX) = cs := by simp [splice,Q7]
  rw [e,Va hg]
  simp [R3,BV]
 ·have hfit : fits O i 0 = true := by simp [fits]
  have h4 : off * 6 + n * 6 ≤ cs.length := by omega
  simp [R3,BV,h0,VT,h1,h2,h3,hg,hfit,h4]
theorem QaP {M : List X} {rest : List V} {a : Nat} (h : a ≤ M.length) : ∃ rest',splice (Qy M ++ rest) (a * 6) (Q7 (M.length - a) zX) = Qy (M.take a) ++ rest' ∧ rest'.length + a * 6 = rest.length + M.length * 6 := by
 have h3 := (Mv (M.length - a)).2.2
 have h1 : (Qy M ++ rest).take (a * 6) = Qy (M.take a) := by
  have e1 : Qy M = Qy (M.take a) ++ Qy (M.drop a) := by rw [← B5,List.take_append_drop]
  rw [e1,List.append_assoc,List.take_append_of_le_length (by rw [Z8,List.length_take]; omega),List.take_of_length_le (by rw [Z8,List.length_take]; omega)]
 refine ⟨Q7 (M.length - a) zX ++ (Qy M ++ rest).drop (a * 6 + (M.length - a) * 6),?_,?_⟩
 ·unfold splice
  rw [h1,h3,List.append_assoc]
 ·rw [List.length_append,h3,List.length_drop,List.length_append,Z8]
  omega
theorem Ck {H : Qa} {i c ver : Nat} {k : Int} {l : List X} {rest : List V} (hi : i < H.length) (hc : Qh H c = some (.var [.int .i64 k])) (hci : c ≠ i) (hl : l.length ≤ 1000000000000) : ∀ (m j a : Nat) (M : List X) (G : Qa),l.length - j = m → j ≤ l.length → a ≤ j → M.length = l.length →
  M.take a = (l.take j).filter (fun x => !decide (x.k = k)) → M.drop j = l.drop j → Up (Qn H i (Q9 ver M rest)) G →
  ∃ rest',RS H.length (.rs i ver 6 0 l.length) (.fn Jk [.ptr c 0 0]) (.int .i64 a) (.int .i64 j) G = some (.ret (.rs i ver 6 0 (l.filter (fun x => !decide (x.k = k))).length),Qn H i (Q9 ver (l.filter (fun x => !decide (x.k = k))) rest')) ∧ rest'.length + (l.filter (fun x => !decide (x.k = k))).length * 6 = rest.length + l.length * 6
 | m,j,a,M,G,hm,hj,ha,hM,ht,hd,hU => by
  rw [QqN]
  have hlenH : (Qn H i (Q9 ver M rest)).length = H.length := by simp
  have hgi : Qh G i = some (Q9 ver M rest) := by rw [hU.get (by rw [hlenH]; exact hi),Qcl hi]
  have hgc : Qh G c = some (.var [.int .i64 k]) := by rw [hU.get (by rw [hlenH]; exact Q4 hc),JW hci,hc]
  have hGl : H.length ≤ G.length := by have := hU.len; rwa [hlenH] at this
  by_cases h : j < l.length
  ·have h' : (j : Int) < (l.length : Int) := by omega
   obtain ⟨m,rfl⟩ : ∃ q,m = q + 1 := ⟨m - 1,by omega⟩
   have w1 : IntKind.i64.wrap ((j : Int) + 1) = ((j + 1 : Nat) : Int) := by rw [wrap_i64 (by omega) (by omega)]; omega
   have w2 : IntKind.i64.wrap ((a : Int) + 1) = ((a + 1 : Nat) : Int) := by rw [wrap_i64 (by omega) (by omega)]; omega
   have hjM : j < M.length := by omega
   have hx : M[j] = l[j] := by
    have e1 := List.drop_eq_getElem_cons hjM
    have e2 := List.drop_eq_getElem_cons h
    rw [hd,e2] at e1
    exact (List.cons.inj e1).1.symm
   have hd1 : M.drop (j + 1) = l.drop (j + 1) := by rw [← List.drop_drop,← List.drop_drop,hd]
   have ix := V5 (i := i) (ver := ver) (sz := 6) (off := 0) (n := l.length) (k := .i64) (j := j) h
   have ta := take_at hjM rest
   rw [hx] at ta
   rw [Nat.zero_add] at ix
   have hG1 : Qh (.var (Qd l[j]).cells :: G) c = some (.var [.int .i64 k]) := by rw [Qck (Q4 hgc)]; exact hgc
   have his := Aw l[j] hG1
   have htk : l.take (j + 1) = l.take j ++ [l[j]] := List.take_succ_eq_append_getElem h
   have j2 : ∀ t G1,Gi H.length (.rs i ver 6 0 l.length) (.fn Jk [.ptr c 0 0]) t (.int .i64 j) G1 = RS H.length (.rs i ver 6 0 l.length) (.fn Jk [.ptr c 0 0]) t (.int .i64 ((j + 1 : Nat) : Int)) G1 := fun t G1 => by
    rw [QoB]; simp only [Qah,Qdx,w1]
   obtain ⟨kk,s,ks,e⟩ : ∃ k s ks,l[j] = .mk k s ks := by cases l[j] with | mk k s ks => exact ⟨k,s,ks,rfl⟩
   by_cases hk : l[j].k = k
   ·obtain ⟨rest',ih,hr⟩ := Ck hi hc hci hl m (j + 1) a M (.var (Qd l[j]).cells :: G) (by omega) (by omega) (by omega) hM (by rw [ht,htk,List.filter_append]; simp [hk]) hd1 (hU.cons _)
    refine ⟨rest',?_,hr⟩
    rw [decide_eq_true hk] at his
    rw [e,QE] at ta his
    simp only [Qan] at his
    rw [e,QE,Qan] at ih
    simp only [Qah,Qag,Qab,Qbd,Qbc,Qep,Qfu,Qfb,Qdx,Qef,Qcz,Qcy,Qan,Qgo,Qgn,Qgs,Qgy,Qhc,Qdi,Qdt,Qde,Qdd,Qdc,Qhh,Qhf,Qcj,Qcn,Qfv,Qhi,decide_true,Bool.not_true,if_true,List.drop_zero,List.drop_succ_cons,List.length_cons,List.length_nil,Nat.zero_add,Bool.and_true,List.append_nil,List.nil_append,List.cons_append,Nat.reduceAdd,Qj,Qz,List.drop_nil,Qu,Nat.le_refl,Nat.zero_le,or_true,and_self,Nat.max_self,List.take_zero,List.take_succ_cons,h',ix,hgi,ta,his,j2,ih]
   ·have haM : a < M.length := by omega
    obtain ⟨rest',ih,hr⟩ := Ck hi hc hci hl m (j + 1) (a + 1) (M.set a l[j]) (Qn (.var (Qd l[j]).cells :: G) i (Q9 ver (M.set a l[j]) rest)) (by omega) (by omega) (by omega) (by simp [hM])
     (by rw [htk,List.filter_append,← ht,List.take_succ_eq_append_getElem (by simpa using haM),List.getElem_set_self,List.take_set_of_le (Nat.le_refl _)]; simp [hk])
     (by rw [List.drop_set_of_lt (by omega)]; exact hd1)
     (by have := (hU.cons (.var (Qd l[j]).cells)).set_low (i := i) (by simpa using hi) (Q9 ver (M.set a l[j]) rest); rwa [Qcp] at this)
    refine ⟨rest',?_,hr⟩
    have h2 : a < l.length := by omega
    have ix2 := V5 (i := i) (ver := ver) (sz := 6) (off := 0) (n := l.length) (k := .i64) (j := a) h2
    rw [Nat.zero_add] at ix2
    have sa := Qb5 haM rest l[j]
    have hle : a * 6 + 6 ≤ (Qy M ++ rest).length := by rw [List.length_append,Z8]; omega
    have hGi : i < G.length := by omega
    rw [decide_eq_false hk] at his
    have hb : fits H.length i 0 = true := by simp [fits]
    rw [e,QE] at ta his
    simp only [Qan] at his
    rw [e,QE,Qan] at sa
    rw [e,QE,Qan] at ih
    simp only [Qco,hGi] at ih
    simp only [Qah,Qag,Qab,Qbd,Qep,Qfu,Qfb,Qdx,Qef,Qcz,Qcy,Qan,Qgo,Qgn,Qgs,Qgy,Qhc,Qdi,Qdt,Qde,Qdd,Qdc,Qhh,Qhg,Qhf,Qck,Qco,Qcj,Qcn,Qfv,Qhi,decide_true,Bool.not_false,if_true,List.drop_zero,List.drop_succ_cons,List.length_cons,List.length_nil,Nat.zero_add,Bool.and_true,List.append_nil,List.nil_append,List.cons_append,Nat.reduceAdd,Qj,Qz,List.drop_nil,Qu,Nat.le_refl,Nat.zero_le,or_true,and_true,and_self,Nat.max_self,List.take_zero,List.take_succ_cons,h',ix,hgi,ta,his,ix2,sa,hle,w2,j2,ih,hGi,hb]
  ·have h' : ¬ (j : Int) < (l.length : Int) := by omega
   rw [List.take_of_length_le (show l.length ≤ j by omega)] at ht
   have haM : a ≤ M.length := by omega
   have hln : (l.filter (fun x => !decide (x.k = k))).length = a := by rw [← ht,List.length_take]; omega
   obtain ⟨rest',e1,e2⟩ := QaP (rest := rest) haM
   refine ⟨rest',?_,by rw [hln,e2,hM]⟩
   have hcl := QbI (O := H.length) (off := a) (n := l.length - a) hgi (by rw [List.length_append,Z8]; omega)
   rw [← hM,e1,ht] at hcl
   rw [← hM] at h' ⊢
   have hT := (hU.set_low (i := i) (by simpa using hi) (Q9 ver (l.filter (fun x => !decide (x.k = k))) rest')).trunc
   rw [Qcp,JB] at hT
   have hmr : ¬ H.length < i + 1 := by omega
   have hrt : rt true H.length (.rs i ver 6 0 a) (Qn G i (Q9 ver (l.filter (fun x => !decide (x.k = k))) rest')) = some (.ret (.rs i ver 6 0 a),Qn H i (Q9 ver (l.filter (fun x => !decide (x.k = k))) rest')) := by
    rw [Nw,if_pos (by simp only [V.maxRef]; exact hi),hT]
   rw [hln]
   simp only [Qah,Qag,Qbc,Qep,Qfb,Qdx,Qef,Qan,Qgo,Qgn,Qgs,Qgy,Qhh,Qhf,Qcj,Qcn,Qfv,decide_false,List.length_cons,List.length_nil,Nat.zero_add,Bool.and_true,List.nil_append,List.cons_append,Nat.reduceAdd,Qj,Qz,Nat.le_refl,and_true,and_self,h',Ah haM,hcl,QdO haM,hrt]
abbrev Z6 (k : Int) (l : List X) : List X := l.filter (fun x => !decide (x.k = k))
inductive Rw (H : Qa) : V → List X → Prop where
 | nils : Rw H .nils []
 | rs (i ver : Nat) (l : List X) (rest : List V) (h : Qh H i = some (Q9 ver l rest)) : Rw H (.rs i ver 6 0 l.length) l
theorem Rw.sl {H : Qa} {v : V} {l : List X} (h : Rw H v l) : Sl H v l := by
 cases h with
 | nils => exact .nils
 | rs i ver l rest h => exact .rs i ver l rest h
theorem Out7.rw {O : Nat} {H : Qa} {v : V} {l : List X} (h : Out7 O H v l) : Rw H v l := by
 cases h with
 | nils => exact .nils
 | rs i ver l hb h => exact .rs i ver l [] (by rw [h]; simp [Q9])
theorem CI {H : Qa} {i c ver : Nat} {k : Int} {l : List X} {rest : List V} (hg : Qh H i = some (Q9 ver l rest)) (hc : Qh H c = some (.var [.int .i64 k])) (hl : l.length ≤ 1000000000000) :
  ∃ rest',E UU [.rs i ver 6 0 l.length,.fn Jk [.ptr c 0 0]] H = some (.ret (.rs i ver 6 0 (Z6 k l).length),Qn H i (Q9 ver (Z6 k l) rest')) ∧ rest'.length + (Z6 k l).length * 6 = rest.length + l.length * 6 := by
 have hi := Q4 hg
 have hci : c ≠ i := by rintro rfl; rw [hg] at hc; cases hc
 obtain ⟨r,r1,r2⟩ := DD (Sl.rs i ver l rest hg) hl (f := Jk) (cap := [.ptr c 0 0]) (q := fun x => decide (x.k = k)) (fun x _ => Aw x hc)
 rcases r2 with ⟨rfl,h⟩ | ⟨j,rfl,h,h2,h3⟩
 ·have e : Z6 k l = l := by
   refine List.filter_eq_self.2 fun x hx => ?_
   have := List.any_eq_false.1 h x hx
   simpa using this
  rw [e]
  refine ⟨rest,?_,rfl⟩
  have hrt : rt true H.length (.rs i ver 6 0 l.length) H = some (.ret (.rs i ver 6 0 l.length),H) := by
   rw [Nw,if_pos (by simp only [V.maxRef]; exact hi),Qcx]
  rw [DK,Eo,Va hg]
  simp only [Qah,Qab,Qbd,Qdx,Qeb,decide_true,Int.reduceAdd,r1,hrt]
 ·have hj1 : IntKind.i64.wrap ((j : Int) + 1) = ((j + 1 : Nat) : Int) := by rw [wrap_i64 (by omega) (by omega)]; omega
  have hk : l[j].k = k := by simpa using h2
  have hne : ¬ (j : Int) = -1 := by omega
  obtain ⟨rest',e1,e2⟩ := Ck (ver := ver) (k := k) (l := l) (rest := rest) hi hc hci hl (l.length - (j + 1)) (j + 1) j l H rfl (by omega) (by omega) rfl (by
   rw [List.take_succ_eq_append_getElem h,List.filter_append]
   have e : (l.take j).filter (fun x => !decide (x.k = k)) = l.take j := by
    refine List.filter_eq_self.2 fun x hx => ?_
    have := List.any_eq_false.1 h3 x hx
    simpa using this
   rw [e]
   simp [hk]) rfl (by rw [Va hg]; exact Up.refl _)
  refine ⟨rest',?_,e2⟩
  rw [DK,Eo]
  simp only [Qah,Qab,Qbc,Qdx,Qeb,decide_false,r1,hne,hj1,e1]
theorem DL {H : Qa} {c : Nat} {k : Int} : E UU [.nils,.fn Jk [.ptr c 0 0]] H = some (.ret .nils,H) := by
 obtain ⟨r,r1,r2⟩ := DD (H := H) Sl.nils (by simp) (f := Jk) (cap := [.ptr c 0 0]) (q := fun x => decide (x.k = k)) (fun x hx => by simp at hx)
 rcases r2 with ⟨rfl,h⟩ | ⟨j,rfl,h,-⟩
 ·have hrt : rt true H.length .nils H = some (.ret .nils,H) := by
   rw [Nw,if_pos (by simp [V.maxRef]),Qcx]
  rw [DK,Eo]
  simp only [Qah,Qab,Qbd,Qdx,Qeb,decide_true,Int.reduceAdd,r1,hrt]
 ·simp at h
theorem Qls {H0 H : Qa} {v : V} {c : Nat} {k : Int} {l : List X} (h : Rw H v l) (hb : ∀ i ver n,v = .rs i ver 6 0 n → H0.length ≤ i) (hU : Up H0 H) (hc : Qh H c = some (.var [.int .i64 k])) (hl : l.length ≤ 1000000000000) :
  ∃ v' G,E UU [v,.fn Jk [.ptr c 0 0]] H = some (.ret v',G) ∧ Rw G v' (Z6 k l) ∧ (∀ i ver n,v' = .rs i ver 6 0 n → H0.length ≤ i) ∧ Up H0 G ∧
   (∀ j,H0.length ≤ j → (∃ b,Qh H j = some (.var b)) → Qh G j = Qh H j) ∧ (v = .nils → v' = .nils) := by
 cases h with
 | nils => exact ⟨.nils,H,DL (k := k),.nils,fun i ver n e => (nomatch e),hU,fun j _ _ => rfl,fun _ => rfl⟩
 | rs i ver l rest hg =>
  obtain ⟨rest',e1,e2⟩ := CI hg hc hl
  have hbi := hb i ver _ rfl
  refine ⟨_,_,e1,.rs i ver _ rest' (Qcl (Q4 hg)),fun i' ver' n e => by cases e; exact hbi,hU.set hbi _,fun j _ ⟨b,hj⟩ => ?_,fun e => by cases e⟩
  have : j ≠ i := by rintro rfl; rw [hg] at hj; cases hj
  rw [JW this]
theorem QpH {G : Qa} {O n i ver : Nat} {l : List X} {rest : List V} (hg : Qh G i = some (Q9 ver l rest)) (hb : O ≤ i) : frz G O (n + 1 + 1) (.rs i ver 6 0 l.length) = some (.vs (Qw l)) := by
 have h1 : (List.drop (0 * 6) (Qy l ++ rest)).take (l.length * 6) = Qy l := by
  rw [Nat.zero_mul,List.drop_zero,List.take_append_of_le_length (by rw [Z8]; exact Nat.le_refl _),List.take_of_length_le (by rw [Z8]; exact Nat.le_refl _)]
 have h2 : Ye (frz G O (n + 1)) (Qy l) = some (Qy l) := LP fun c hc => A4 (Z0.cellsF_plain l c hc)
 have h3 := Z0.cellsF_clean l
 have h4 := Z0.cellsF_scal l
 have h5 : (0 + l.length) * 6 ≤ (Qy l ++ rest).length := by rw [List.length_append,Z8]; omega
 have h6 := Z0.chunk l
 rw [frz]
 simp only [Nat.not_lt.2 hb,if_false,hg,Q9,h1,h2,h3,h4,h5,h6,true_and,and_true,Nat.reduceLT,if_true,Option.bind_some,true_or,WW]
def ofV (v : V) (l : List X) (kind none : Int) : V := match l with
 | [] => Qd (.mk none S4.zero [])
 | [x] => Qd x
 | _ => .agg [.int .i64 kind,.int .u64 0,.int .u64 0,.int .u64 0,.int .u64 0,v]
theorem bXr (k : Int) (i ver sz off n : Nat) : Zj zX [(0,1),(1,4),(5,1)] [(0,.int .i64 k),(2,.rs i ver sz off n)] = some (.agg [.int .i64 k,.int .u64 0,.int .u64 0,.int .u64 0,.int .u64 0,.rs i ver sz off n]) := by simp [splice]
theorem Dk {H : Qa} {v : V} {l : List X} (h : Sl H v l) (kind none : Int) : E Fp [v,.int .i64 kind,.int .i64 none] H = some (.ret (ofV v l kind none),H) := by
 rw [QhP,Qlw]
 match l,h with
 | [],h =>
  have hlen : QM v = some (.int .i64 0) := h.len
  have b := bXk none
  simp only [Qah,Qag,Qbd,Qeb,Qcx,Qcz,Qan,Qgo,Qgn,Qgs,Qgy,Qdi,Qdo,Qdt,Qde,Qdd,Qdc,Qhh,Qhf,Qcr,Qcj,Qcn,Qfv,Qhi,Qgb,Qga,Qbe,Qbx,Qca,Qbt,Qdb,Qda,decide_true,if_true,List.drop_zero,List.drop_succ_cons,List.length_cons,List.length_nil,Nat.zero_add,Option.bind_some,Option.map_some,Bool.and_true,List.append_nil,Nat.reduceAdd,Qj,Qz,List.drop_nil,Qu,Nat.le_refl,Nat.zero_le,or_true,and_self,Nat.max_self,List.take_zero,List.take_succ_cons,hlen,b]
  rfl
 | [x],h =>
  have hlen : QM v = some (.int .i64 1) := h.len
  have e : ¬ (1 : Int) = 0 := by decide
  obtain ⟨p,p0,p5,q1,q2,-⟩ := (h.up ((Up.refl H).cons (.var zX))).at (j := 0) (by simp)
  simp only [Qam,List.getElem_cons_zero] at q1 q2
  simp only [Qah,Qag,Qbd,Qbc,Qeb,Qcx,Qcz,Qan,Qgo,Qgn,Qgs,Qgy,Qhh,Qhf,Qcr,Qcj,Qcn,Qfv,Qhi,Qem,Qbg,Qbm,Qbj,Qbf,Qbo,Qbl,decide_true,decide_false,if_true,List.drop_zero,List.drop_succ_cons,List.length_cons,List.length_nil,Nat.zero_add,Bool.and_true,List.append_nil,Nat.reduceAdd,Qj,Qz,List.drop_nil,Qu,Nat.le_refl,Nat.zero_le,or_true,and_self,hlen,e,q1,q2,ofV]
 | x :: y :: l,h =>
  obtain ⟨n,hn⟩ : ∃ n : Int,n = (((x :: y :: l).length : Nat) : Int) := ⟨_,rfl⟩
  have hlen : QM v = some (.int .i64 n) := by rw [hn]; exact h.len
  have e : ¬ n = 0 := by simp only [List.length_cons] at hn; omega
  have e2 : ¬ n = 1 := by simp only [List.length_cons] at hn; omega
  generalize hL : x :: y :: l = L at h hn
  cases h with
  | nils => cases hL
  | vs =>
   have b := bXv kind (Qw L)
   simp only [Qah,Qag,Qbc,Qeb,Qcx,Qcz,Qan,Qgo,Qgn,Qgs,Qgy,Qhc,Qdi,Qdt,Qde,Qdd,Qdc,Qhh,Qhf,Qcr,Qcj,Qcn,Qfv,Qhi,Qgb,Qga,Qbe,Qbx,Qce,Qbt,Qdb,Qda,decide_false,if_true,List.drop_zero,List.drop_succ_cons,List.length_cons,List.length_nil,Nat.zero_add,Option.bind_some,Option.map_some,Bool.and_true,List.append_nil,Nat.reduceAdd,Qj,Qz,List.drop_nil,Qu,Nat.le_refl,Nat.zero_le,or_true,and_self,Nat.max_self,List.take_zero,List.take_succ_cons,hlen,e,e2,b]
   subst hL
   rfl
  | rs i ver _ rest hg =>
   have b := bXr kind i ver 6 0 L.length
   have hi := Q4 hg
   have hfr : ∀ G,frz G H.length 11 (.rs i ver 6 0 L.length) = some (.rs i ver 6 0 L.length) := fun G => by
    rw [frz]; simp only [hi,if_true]
   have hm2 : i + 1 ≤ H.length := hi
   have hm : (V.agg [.int .i64 kind,.int .u64 0,.int .u64 0,.int .u64 0,.int .u64 0,.rs i ver 6 0 L.length]).maxRef = i + 1 := by simp [V.maxRef,QX]
   have hr : ∀ G,rt false H.length (.agg [.int .i64 kind,.int .u64 0,.int .u64 0,.int .u64 0,.int .u64 0,.rs i ver 6 0 L.length]) G = some (.ret (.agg [.int .i64 kind,.int .u64 0,.int .u64 0,.int .u64 0,.int .u64 0,.rs i ver 6 0 L.length]),Q2 G H.length) := fun G => by
    rw [Qgb,Qbe,Qbt]
    simp only [Qda,Qdb,Qbx,hfr,Option.bind_some,Option.map_some,Qga,hm]
    rw [if_pos hm2]
   simp only [Qah,Qag,Qbc,Qeb,Qcx,Qcz,Qan,Qgo,Qgn,Qgs,Qgy,Qha,Qdi,Qdq,Qde,Qdd,Qdc,Qhh,Qhf,Qcr,Qcj,Qcn,Qfv,Qhi,decide_false,if_true,List.drop_zero,List.drop_succ_cons,List.length_cons,List.length_nil,Nat.zero_add,Bool.and_true,List.append_nil,Nat.reduceAdd,Nat.reduceLeDiff,Qj,Qz,List.drop_nil,Nat.le_refl,true_or,and_self,Nat.zero_max,Nat.max_zero,List.take_zero,List.take_succ_cons,hlen,e,e2,b,hr]
   subst hL
   rfl
theorem AA {H G : Qa} {v : V} {l : List X} (h : Rw G v l) (hb : ∀ i ver n,v = .rs i ver 6 0 n → H.length ≤ i) (hU : Up H G) (kind none : Int) : rt false H.length (ofV v l kind none) G = some (.ret (Qd (ofL l kind none)),H) := by
 match l,h with
 | [],h => simp only [ofV,ofL,Qbl,hU.trunc]
 | [x],h => simp only [ofV,ofL,Qbl,hU.trunc]
 | x :: y :: l,h =>
  simp only [ofV,ofL]
  generalize hL : x :: y :: l = L at h
  cases h with
  | nils => cases hL
  | rs i ver _ rest hg =>
   have hf := QpH (O := H.length) (n := 9) hg (hb i ver _ rfl)
   rw [Qgb,Qbe,Qbt]
   simp only [Qda,Qdb,Qbx,hf,Option.bind_some,Option.map_some,Qga]
   rw [if_pos (by simp [V.maxRef,QX]),hU.trunc]
   rfl
theorem DT {v : V} (hv : v.scal = true) (l : List X) (kind none : Int) : (ofV v l kind none).cells.length = 6 ∧ Qv (ofV v l kind none).cells = true ∧ ZJ true 6 (ofV v l kind none).cells = some (ofV v l kind none) := by
 unfold ofV
 split
 ·exact ⟨by simp,by simp,Zx _⟩
 ·exact ⟨by simp,by simp,Zx _⟩
 ·exact ⟨rfl,by simp only [Qan,Qv,hv,Bool.and_true]; rfl,rfl⟩
theorem Rw.scal {H : Qa} {v : V} {l : List X} (h : Rw H v l) : v.scal = true := by cases h <;> rfl
theorem Y6 {H G : Qa} {t : Nat} (ht : H.length ≤ t) {cs : List V} (hc : cs.length = 6) (hg : Qh G t = some (.var cs)) {x : V} (h6 : x.cells.length = 6) (hs : Qv x.cells = true) :
  Qs H.length 6 G (.ptr t 0 0) x = some (.tup [],Qn G t (.var x.cells)) := by
 rw [Qz,hg,Qhh]
 have hfit : fits H.length t x.maxRef = true := by simp [fits,ht]
 have hsp : splice cs 0 x.cells = x.cells := by simp [splice,h6,hc]
 simp only [h6,hs,hc,hsp,Nat.zero_add,Nat.le_refl,and_self,if_true,true_and,true_or,hfit,ht]
theorem XI {H : Qa} {v : V} {l : List X} (hv : Sl H v l) (hn : Qk l ≤ 900000000000) : E PX [v] H = some (.ret (Qd (Q8 l)),H) := by
 have hfl := PM (k := 3) l
 have hll := Yq l
 have hfl' : (flatK 3 l).length ≤ 1000000000000 := by omega
 rw [QqS,QlB]
 obtain ⟨v1,G1,a1,a2,a3⟩ := QeJ (k := 3) (hv.up ((Up.refl H).cons (.var zX))) (by omega) (by omega)
 have hU1 : Up H G1 := ((Up.refl H).cons _).trans a3
 have hH1 : Qh G1 H.length = some (.var zX) := by rw [a3.get (by simp)]; simp
 have i1 := FW 0 G1
 have hU2 := hU1.cons (.var [.int .i64 0])
 have a4 := (a2.up ((Up.refl G1).cons (.var [.int .i64 0])))
 have ct := DN a4.sl (by omega) (f := Jk) (cap := [.ptr G1.length 0 0]) (q := fun x => decide (x.k = 0)) (fun x _ => Aw x (by simp))
 have b0 := bXk 0
 have hGl := hU1.len
 have hH2 : ∀ b,Qh (b :: G1) H.length = some (.var zX) := fun b => by rw [Qck (Q4 hH1)]; exact hH1
 unfold Q8
 cases hany : (flatK 3 l).any (fun x => decide (x.k = 0)) with
 | true =>
  rw [hany] at ct
  rw [if_pos rfl]
  have st := Y6 (H := H) (G := .var [.int .i64 0] :: G1) (t := H.length) (Nat.le_refl _) (cs := zX) rfl (hH2 _) (x := .agg [.int .i64 0,.int .u64 0,.int .u64 0,.int .u64 0,.int .u64 0,.nils]) rfl rfl
  have hT := (hU2.set (i := H.length) (Nat.le_refl _) (.var [.int .i64 0,.int .u64 0,.int .u64 0,.int .u64 0,.int .u64 0,.nils])).trunc
  have hlt : H.length < G1.length + 1 := by omega
  simp only [Qah,Qag,Qab,Qbd,Qan,Qgo,Qgn,Qgs,Qgy,Qfv,Bool.and_true,Qj,a1,i1,ct,b0,st]
  have hs : Qh (Qn (.var [.int .i64 0] :: G1) H.length (.var [.int .i64 0,.int .u64 0,.int .u64 0,.int .u64 0,.int .u64 0,.nils])) H.length = some (.var [.int .i64 0,.int .u64 0,.int .u64 0,.int .u64 0,.int .u64 0,.nils]) := Qcl (by simpa using hlt)
  simp only [Qah,Qcz,Qdi,Qdt,Qde,Qdd,Qdc,Qhi,Qgb,Qga,Qbe,Qbx,Qca,Qbt,Qdb,Qda,if_true,List.drop_zero,List.length_cons,List.length_nil,Nat.zero_add,Option.bind_some,Option.map_some,Nat.reduceAdd,Nat.le_refl,Nat.zero_le,Nat.max_self,List.take_zero,List.take_succ_cons,hs,hT]
  rfl
 | false =>
  rw [hany] at ct
  rw [if_neg (by simp)]
  have i2 := FW 1 (.var [.int .i64 0] :: G1)
  have hU3 := hU2.cons (.var [.int .i64 1])
  have a5 := a4.up ((Up.refl _).cons (.var [.int .i64 1]))
  clear a2 a4 hany hn hfl
  have hfl : (flatK 3 l).length ≤ 1000000000000 := hfl'
  generalize flatK 3 l = fl at *
  obtain ⟨v3,G3,d1,d2,d3,d4,d5,-⟩ := Qls (H0 := (.var zX :: H : Qa)) (k := 1) (c := (.var [.int .i64 0] :: G1 : Qa).length) a5.rw (fun i ver n e => by
   cases a5 with
   | nils => cases e
   | rs i' ver' _ hb hg => cases e; exact hb) ((a3.cons _).cons _) (by simp) (by omega)
  have hU4 : Up H G3 := ((Up.refl H).cons _).trans d4
  have o1 := Dk d2.sl 3 1
  have hH3 : Qh G3 H.length = some (.var zX) := by rw [d4.get (by simp)]; simp
  obtain ⟨s1,s2,s3⟩ := DT d2.scal (Z6 1 (fl)) 3 1
  have st := Y6 (H := H) (G := G3) (t := H.length) (Nat.le_refl _) (cs := zX) rfl hH3 s1 s2
  have hne : ∀ i ver n,v3 = .rs i ver 6 0 n → H.length ≤ i := fun i ver n e => by have := d3 i ver n e; simp only [List.length_cons] at this; omega
  have d6 : Rw (Qn G3 H.length (.var (ofV v3 (Z6 1 (fl)) 3 1).cells)) v3 (Z6 1 (fl)) := by
   generalize Z6 1 (fl) = L at d2 ⊢
   cases d2 with
   | nils => exact .nils
   | rs i ver _ rest hg =>
    have := d3 i ver _ rfl
    simp only [List.length_cons] at this
    exact .rs i ver _ rest (by rw [JW (by omega)]; exact hg)
  have rr := AA d6 hne (hU4.set (i := H.length) (Nat.le_refl _) _) 3 1
  have hs : Qh (Qn G3 H.length (.var (ofV v3 (Z6 1 (fl)) 3 1).cells)) H.length = some (.var (ofV v3 (Z6 1 (fl)) 3 1).cells) := Qcl (Q4 hH3)
  simp only [List.length_cons] at i2 d1
  simp only [Qah,Qag,Qab,Qbc,Qcz,Qan,Qgo,Qgn,Qgs,Qgy,Qfv,List.drop_zero,Bool.and_true,Qj,a1,i1,ct,i2,d1,o1,st,hs,s3]
  exact rr
theorem QcO {H : Qa} {v : V} {l : List X} (h : Sl H v l) (h0 : l ≠ []) (kind none : Int) : E L2 [v,.int .i64 kind] H = some (.ret (ofV v l kind none),H) := by
 rw [QoL,QnL]
 match l,h with
 | [],h => exact absurd rfl h0
 | [x],h =>
  have hlen : QM v = some (.int .i64 1) := h.len
  obtain ⟨p,p0,p5,q1,q2,-⟩ := (h.up ((Up.refl H).cons (.var zX))).at (j := 0) (by simp)
  simp only [Qam,List.getElem_cons_zero] at q1 q2
  simp only [Qah,Qag,Qbd,Qeb,Qcx,Qcz,Qan,Qgo,Qgn,Qgs,Qgy,Qhh,Qhf,Qcr,Qcj,Qcn,Qfv,Qhi,Qem,Qbg,Qbm,Qbj,Qbf,Qbo,Qbl,decide_true,if_true,List.drop_zero,List.drop_succ_cons,List.length_cons,List.length_nil,Nat.zero_add,Bool.and_true,List.append_nil,Nat.reduceAdd,Qj,Qz,List.drop_nil,Qu,Nat.le_refl,Nat.zero_le,or_true,and_self,hlen,q1,q2,ofV]
 | x :: y :: l,h =>
  obtain ⟨n,hn⟩ : ∃ n : Int,n = (((x :: y :: l).length : Nat) : Int) := ⟨_,rfl⟩
  have hlen : QM v = some (.int .i64 n) := by rw [hn]; exact h.len
  have e2 : ¬ n = 1 := by simp only [List.length_cons] at hn; omega
  generalize hL : x :: y :: l = L at h hn
  cases h with
  | nils => cases hL
  | vs =>
   have b := bXv kind (Qw L)
   simp only [Qah,Qag,Qbc,Qeb,Qcx,Qcz,Qan,Qgo,Qgn,Qgs,Qgy,Qhc,Qdi,Qdt,Qde,Qdd,Qdc,Qhh,Qhf,Qcr,Qcj,Qcn,Qfv,Qhi,Qgb,Qga,Qbe,Qbx,Qce,Qbt,Qdb,Qda,decide_false,if_true,List.drop_zero,List.drop_succ_cons,List.length_cons,List.length_nil,Nat.zero_add,Option.bind_some,Option.map_some,Bool.and_true,List.append_nil,Nat.reduceAdd,Qj,Qz,List.drop_nil,Qu,Nat.le_refl,Nat.zero_le,or_true,and_self,Nat.max_self,List.take_zero,List.take_succ_cons,hlen,e2,b]
   subst hL
   rfl
  | rs i ver _ rest hg =>
   have b := bXr kind i ver 6 0 L.length
   have hi := Q4 hg
   have hfr : ∀ G,frz G H.length 11 (.rs i ver 6 0 L.length) = some (.rs i ver 6 0 L.length) := fun G => by
    rw [frz]; simp only [hi,if_true]
   have hm2 : i + 1 ≤ H.length := hi
   have hm : (V.agg [.int .i64 kind,.int .u64 0,.int .u64 0,.int .u64 0,.int .u64 0,.rs i ver 6 0 L.length]).maxRef = i + 1 := by simp [V.maxRef,QX]
   have hr : ∀ G,rt false H.length (.agg [.int .i64 kind,.int .u64 0,.int .u64 0,.int .u64 0,.int .u64 0,.rs i ver 6 0 L.length]) G = some (.ret (.agg [.int .i64 kind,.int .u64 0,.int .u64 0,.int .u64 0,.int .u64 0,.rs i ver 6 0 L.length]),Q2 G H.length) := fun G => by
    rw [Qgb,Qbe,Qbt]
    simp only [Qda,Qdb,Qbx,hfr,Option.bind_some,Option.map_some,Qga,hm]
    rw [if_pos hm2]
   simp only [Qah,Qag,Qbc,Qeb,Qcx,Qcz,Qan,Qgo,Qgn,Qgs,Qgy,Qha,Qdi,Qdq,Qde,Qdd,Qdc,Qhh,Qhf,Qcr,Qcj,Qcn,Qfv,Qhi,decide_false,if_true,List.drop_zero,List.drop_succ_cons,List.length_cons,List.length_nil,Nat.zero_add,Bool.and_true,List.append_nil,Nat.reduceAdd,Nat.reduceLeDiff,Qj,Qz,List.drop_nil,Nat.le_refl,true_or,and_self,Nat.zero_max,Nat.max_zero,List.take_zero,List.take_succ_cons,hlen,e2,b,hr]
   subst hL
   rfl
theorem T5 {H G : Qa} (hU : Up H G) (hH : Qh G H.length = some (.var zX)) {v : V} {l : List X} (h : Out7 (H.length + 1) G v l) (kind none : Int) :
  ∃ G',Qs H.length 6 G (.ptr H.length 0 0) (ofV v l kind none) = some (.tup [],G') ∧ Qc true 6 G' (.ptr H.length 0 0) = some (ofV v l kind none) ∧ rt false H.length (ofV v l kind none) G' = some (.ret (Qd (ofL l kind none)),H) := by
 obtain ⟨s1,s2,s3⟩ := DT h.rw.scal l kind none
 have st := Y6 (H := H) (G := G) (t := H.length) (Nat.le_refl _) (cs := zX) rfl hH s1 s2
 have hs : Qh (Qn G H.length (.var (ofV v l kind none).cells)) H.length = some (.var (ofV v l kind none).cells) := Qcl (Q4 hH)
 refine ⟨_,st,by rw [Qj,hs,Qcz,List.drop_zero,s3],?_⟩
 refine AA (v := v) (l := l) ?_ ?_ (hU.set (Nat.le_refl _) _) kind none
 ·cases h with
  | nils => exact .nils
  | rs i ver l hb hg => exact .rs i ver l [] (by rw [JW (by omega),hg]; simp [Q9])
 ·intro i ver n e
  cases h with
  | nils => cases e
  | rs i' ver' l hb hg => cases e; omega
theorem Ct {H : Qa} {fl : List X} (hn : fl.length ≤ 1000000000000) : ∀ (m i : Nat),fl.length - i = m → i ≤ fl.length → ∀ (o : V) (G : Qa),Out7 (H.length + 1) G o (Z6 1 (fl.take i)) → (fl.take i).any (fun x => decide (x.k = 0)) = false → Up (.var zX :: H) G →
  Rk H.length (.ptr H.length 0 0) (.vs (Qw fl)) o (.int .i64 i) G = some (.ret (Qd (if fl.any (fun x => decide (x.k = 0)) then .mk 0 S4.zero [] else ofL (Z6 1 fl) 3 1)),H)
 | m,i,hm,hi,o,G,ho,hz,hU => by
  have hU0 : Up H G := ((Up.refl H).cons _).trans hU
  have hH : Qh G H.length = some (.var zX) := by rw [hU.get (by simp)]; simp
  rw [QoM]
  by_cases h : i < fl.length
  ·have h' : (i : Int) < (fl.length : Int) := by omega
   obtain ⟨m,rfl⟩ : ∃ j,m = j + 1 := ⟨m - 1,by omega⟩
   have w1 : IntKind.i64.wrap ((i : Int) + 1) = ((i + 1 : Nat) : Int) := by rw [wrap_i64 (by omega) (by omega)]; omega
   obtain ⟨p,p0,p5,q1,q2,q3,q4,-⟩ := (Sl.vs (H := G) fl).at h
   have htk : fl.take (i + 1) = fl.take i ++ [fl[i]] := List.take_succ_eq_append_getElem h
   by_cases k0 : fl[i].k = 0
   ·have ha : fl.any (fun x => decide (x.k = 0)) = true := List.any_eq_true.2 ⟨fl[i],List.getElem_mem h,by simp [k0]⟩
    rw [ha,if_pos rfl]
    have b := bX0
    have st := Y6 (H := H) (G := G) (t := H.length) (Nat.le_refl _) (cs := zX) rfl hH (x := .agg zX) rfl rfl
    have hs : Qh (Qn G H.length (.var zX)) H.length = some (.var zX) := Qcl (Q4 hH)
    have hT := (hU0.set (i := H.length) (Nat.le_refl _) (.var zX)).trunc
    rw [k0] at q4
    simp only [Qan] at st
    simp only [Qah,Qag,Qbd,Qfc,Qeb,Qeh,Qef,Qcz,Qdi,Qdt,Qde,Qdd,Qdc,Qhi,Qgb,Qga,Qbe,Qbx,Qca,Qbt,Qdb,Qda,Qbp,decide_true,if_true,List.drop_zero,List.length_cons,List.length_nil,Nat.zero_add,Option.bind_some,Option.map_some,Nat.reduceAdd,Qj,Nat.le_refl,Nat.zero_le,Nat.max_self,List.take_zero,List.take_succ_cons,h',q1,q3,q4,b,st,hs,hT]
    rfl
   ·have hz1 : (fl.take (i + 1)).any (fun x => decide (x.k = 0)) = false := by rw [htk,List.any_append,hz]; simp [k0]
    by_cases k1 : fl[i].k = 1
    ·have e : Z6 1 (fl.take (i + 1)) = Z6 1 (fl.take i) := by rw [htk]; unfold Z6; rw [List.filter_append]; simp [k1]
     have ih := Ct hn m (i + 1) (by omega) (by omega) o G (by rw [e]; exact ho) hz1 hU
     have j2 : Qud H.length (.ptr H.length 0 0) (.vs (Qw fl)) o (.int .i64 i) G = Rk H.length (.ptr H.length 0 0) (.vs (Qw fl)) o (.int .i64 ((i + 1 : Nat) : Int)) G := by
      rw [QfF]; simp only [Qah,Qdx,w1]
     rw [k1] at q4
     have n10 : ¬ (1 : Int) = 0 := by decide
     simp only [Qah,Qbd,Qbc,Qfc,Qeb,Qeh,Qef,Qen,Qem,Qbp,decide_true,decide_false,Bool.not_true,Qj,Qz,h',q1,q3,q4,n10,j2,ih]
    ·have e : Z6 1 (fl.take (i + 1)) = Z6 1 (fl.take i) ++ [fl[i]] := by rw [htk]; unfold Z6; rw [List.filter_append]; simp [k1]
     have hln : (Z6 1 (fl.take i) ++ [fl[i]]).length ≤ 1000000000000 := by
      rw [← e]
      have := List.length_filter_le (fun x : X => !decide (x.k = 1)) (fl.take (i + 1))
      rw [List.length_take] at this
      have h2 : (Z6 1 (fl.take (i + 1))).length = (List.filter (fun x : X => !decide (x.k = 1)) (fl.take (i + 1))).length := rfl
      omega
     have hb : H.length + 1 = (.var zX :: H : Qa).length := rfl
     obtain ⟨v1,G1,a1,a2,a3⟩ := Out7.appB (H := (.var zX :: H : Qa)) (b := H.length) (by simp) ho hU [fl[i]] hln
     have ih := Ct hn m (i + 1) (by omega) (by omega) v1 G1 (by rw [e]; exact a2) hz1 a3
     have j2 : Qud H.length (.ptr H.length 0 0) (.vs (Qw fl)) v1 (.int .i64 i) G1 = Rk H.length (.ptr H.length 0 0) (.vs (Qw fl)) v1 (.int .i64 ((i + 1 : Nat) : Int)) G1 := by
      rw [QfF]; simp only [Qah,Qdx,w1]
     have lt := Qfe (.agg [.int .i64 0,.int .u64 0,.int .u64 0,.int .u64 0,.int .u64 0,.vs []]) fl[i]
     simp only [Qw] at a1
     simp only [Qah,Qag,Qbd,Qbc,Qfc,Qeb,Qeh,Qef,Qen,Qem,Qbp,decide_true,decide_false,Bool.not_false,Qj,Qz,h',q1,q2,q3,q4,k0,k1,lt,a1,j2,ih]
  ·have h' : ¬ (i : Int) < (fl.length : Int) := by omega
   rw [List.take_of_length_le (by omega)] at ho hz
   rw [hz,if_neg (by simp)]
   obtain ⟨n,hn2⟩ : ∃ n : Int,n = ((Z6 1 fl).length : Int) := ⟨_,rfl⟩
   have hlen := ho.sl.len
   rw [← hn2] at hlen
   obtain ⟨G',s1,s2,s3⟩ := T5 hU0 hH ho 3 1
   by_cases h0 : Z6 1 fl = []
   ·have hn0 : n = 0 := by rw [hn2,h0]; rfl
    have b := bXk 1
    subst hn0
    rw [h0]
    have st := Y6 (H := H) (G := G) (t := H.length) (Nat.le_refl _) (cs := zX) rfl hH (x := .agg [.int .i64 1,.int .u64 0,.int .u64 0,.int .u64 0,.int .u64 0,.nils]) rfl rfl
    have hs : Qh (Qn G H.length (.var [.int .i64 1,.int .u64 0,.int .u64 0,.int .u64 0,.int .u64 0,.nils])) H.length = some (.var [.int .i64 1,.int .u64 0,.int .u64 0,.int .u64 0,.int .u64 0,.nils]) := Qcl (Q4 hH)
    have hT := (hU0.set (i := H.length) (Nat.le_refl _) (.var [.int .i64 1,.int .u64 0,.int .u64 0,.int .u64 0,.int .u64 0,.nils])).trunc
    simp only [Qan] at st
    simp only [Qah,Qag,Qbd,Qbc,Qfc,Qeb,Qef,Qcz,Qdi,Qdt,Qde,Qdd,Qdc,Qhi,Qen,Qgb,Qga,Qbe,Qbx,Qca,Qbt,Qdb,Qda,Qbp,decide_true,decide_false,if_true,List.drop_zero,List.length_cons,List.length_nil,Nat.zero_add,Option.bind_some,Option.map_some,Nat.reduceAdd,Qj,Nat.le_refl,Nat.zero_le,Nat.max_self,List.take_zero,List.take_succ_cons,h',hlen,b,st,hs,hT]
    rfl
   ·have hn0 : ¬ n = 0 := by have := List.length_pos_iff.2 h0; omega
    have sm := QcO ho.sl h0 3 1
    simp only [Qah,Qag,Qab,Qbc,Qfc,Qeb,Qef,Qen,Qem,Qbp,decide_false,h',hlen,hn0,sm,s1,s2,s3]
theorem Ni {H : Qa} {v : V} {l : List X} (hv : Sl H v l) (hn : Qk l ≤ 900000000000) : E Vi [v] H = some (.ret (Qd (Q8 l)),H) := by
 have hfl := PM (k := 3) l
 have hll := Yq l
 have f := QfX (k := 3) (hv.up ((Up.refl H).cons (.var zX))) (by omega) (by omega)
 have k := Ct (H := H) (fl := flatK 3 l) (by omega) (flatK 3 l).length 0 rfl (Nat.zero_le _) .nils (.var zX :: H) .nils rfl (Up.refl _)
 simp only [Qam] at k
 rw [QjC,QmC]
 simp only [Qag,Qab,Qan,Qgo,Qgn,Qgs,Qgy,Qfv,Bool.and_true,f,k,Q8]
end Go.Proofs.YtdnmpaielmfiiaaDoor
end
