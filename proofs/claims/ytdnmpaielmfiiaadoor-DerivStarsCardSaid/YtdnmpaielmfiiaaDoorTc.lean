/- Tc: a part of the proof that each law of this seat answers true at every input. No condition. -/
import Derived.Test.YtdnmpaielmfiiaaDoorSb
import Derived.Test.YtdnmpaielmfiiaaDoorTb
import Derived.Test.YtdnmpaielmfiiaaDoorXa
set_option linter.unusedVariables false
set_option linter.unusedSimpArgs false
set_option maxRecDepth 20000
section
namespace Go.Proofs.YtdnmpaielmfiiaaDoor
open Go Go.Ev Go.X7 Go.Srt
set_option maxRecDepth 20000
abbrev FD : V := .fn Bv []
theorem QmL {H : Qa} {i ver : Nat} {rest : List V} {l : List X} (x : X) (hg : Qh H i = some (Q9 ver l rest)) (hr : 6 ≤ rest.length) (hl : l.length ≤ 1000000000000) :
  E Bt [.rs i ver 6 0 l.length,.int .i64 0,.vs [Qd x]] H = some (.ret (.rs i ver 6 0 (x :: l).length),Qn H i (Q9 ver (x :: l) (rest.drop 6))) := by
 rw [show E = EV Tryd.prog YW D from rfl,Kx (g := WC) rfl]
 obtain ⟨cs,hcs⟩ : ∃ cs,Qd x = .agg cs := by cases x; exact ⟨_,rfl⟩
 have h6 : cs.length = 6 := by have := Qbg x; rw [hcs] at this; exact this
 have hsc : Qv cs = true := by have := Qbm x; rw [hcs] at this; exact this
 have hle : (l.length + 1) * 6 ≤ (Qy l ++ rest).length := by rw [List.length_append,Z8]; omega
 have hl2 : l.length ≤ 1000000000000 := hl
 have h1 : (Qy l ++ rest).take (l.length * 6) = Qy l := by
  rw [List.take_append_of_le_length (by rw [Z8]; exact Nat.le_refl _),List.take_of_length_le (by rw [Z8]; exact Nat.le_refl _)]
 have h2 : (Qy l ++ rest).drop ((l.length + 1) * 6) = rest.drop 6 := by
  have h0 : (Qy l ++ rest).drop (l.length * 6) = rest := by
   rw [List.drop_append_of_le_length (by rw [Z8]; exact Nat.le_refl _),List.drop_of_length_le (by rw [Z8]; exact Nat.le_refl _),List.nil_append]
  rw [show (l.length + 1) * 6 = l.length * 6 + 6 by omega,← List.drop_drop,h0]
 have e : Qy (x :: l) = cs ++ Qy l := by
  show (Qd x).cells ++ Qy l = _
  rw [hcs]; rfl
 have h3 : Qv (Qy l) = true := Z0.cellsF_scal l
 unfold WC
 rw [hcs]
 simp only [hg,Q9,h6,hsc,hle,hl2,h3,and_self,if_true,h1,h2,e,List.length_cons]
theorem QjJ {H : Qa} {i ver k : Nat} {rest : List V} (hi : i < H.length) {l : List X} (hl : l.length ≤ 1000000000000) : ∀ (Q Y W : List X) (p : X),Y.getLast? = some p → k + Y.length + Q.length ≥ 0 → (∀ z ∈ p :: Q,Wf z) → dd l = W ++ Yt p Q → (W ++ Y ++ Q).length = l.length → k ≤ W.length →
  ∃ rest',RO H.length (.rs i ver 6 0 l.length) FD (.int .i64 (W.length : Int)) (.rs i ver 6 k (l.length - k)) (.int .i64 ((W.length + Y.length - k : Nat) : Int)) (RH H i ver rest (W ++ Y ++ Q)) =
   some (.ret (.rs i ver 6 0 (dd l).length),RH H i ver rest' (dd l)) := by
 intro Q
 induction Q with
 | nil =>
  intro Y W p hY _ hw hd hlen hk
  simp only [Yt,List.append_nil] at hd hlen
  have hWl : W.length + Y.length = l.length := by rw [← hlen]; simp
  have h' : ¬ ((W.length + Y.length - k : Nat) : Int) < ((l.length - k : Nat) : Int) := by omega
  obtain ⟨rest',e1,e2⟩ := QaP (M := W ++ Y) (rest := rest) (a := W.length) (by simp)
  have ht : (W ++ Y).take W.length = W := by simp
  rw [ht] at e1
  refine ⟨rest',?_⟩
  have hg : Qh (RH H i ver rest (W ++ Y)) i = some (Q9 ver (W ++ Y) rest) := Qcl hi
  have hcl := QbI (O := H.length) (off := W.length) (n := l.length - W.length) hg (by rw [List.length_append,Z8]; simp; omega)
  rw [hlen] at e1
  rw [e1] at hcl
  have hmr : i + 1 ≤ H.length := hi
  have hrt : rt false H.length (.rs i ver 6 0 W.length) (Qn (RH H i ver rest (W ++ Y)) i (Q9 ver W rest')) = some (.ret (.rs i ver 6 0 W.length),RH H i ver rest' W) := by
   rw [Qgh,Qbe,frz]
   simp only [hi,if_true,Qga,V.maxRef,hmr,Qcp]
   rw [UR (by simp)]
  rw [hd,Am]
  simp only [List.append_nil]
  simp only [Qah,Qag,Qbc,Qep,Qfb,Qdx,Qel,Qef,decide_false,List.append_nil,h',Ah (show W.length ≤ l.length by omega),QdO (show W.length ≤ l.length by omega),hcl,hrt]
 | cons y Q ih =>
  intro Y W p hY _ hw hd hlen hk
  have hYne : Y ≠ [] := by rintro rfl; simp at hY
  have hYl := List.length_pos_iff.2 hYne
  obtain ⟨Y0,rfl⟩ : ∃ Y0,Y = Y0 ++ [p] := by
   obtain ⟨ys,hys⟩ := List.getLast?_eq_some_iff.1 hY
   exact ⟨ys,hys⟩
  have hYl2 : (Y0 ++ [p]).length = Y0.length + 1 := by simp
  have hNs : W.length + (Y0.length + 1) + (Q.length + 1) = l.length := by rw [← hlen]; simp; omega
  have hp : Wf p := hw p (by simp)
  have hy : Wf y := hw y (by simp)
  have h' : ((W.length + (Y0 ++ [p]).length - k : Nat) : Int) < ((l.length - k : Nat) : Int) := by rw [hYl2]; omega
  have ix : Qx 6 (.rs i ver 6 k (l.length - k)) (.int .i64 ((W.length + (Y0 ++ [p]).length - k : Nat) : Int)) = some (.ptr i ver ((W.length + Y0.length + 1) * 6)) := by
   rw [V5 (by rw [hYl2]; omega)]
   congr 3; rw [hYl2]; omega
  have wm : IntKind.i64.wrap (((W.length + (Y0 ++ [p]).length - k : Nat) : Int) - 1) = ((W.length + Y0.length - k : Nat) : Int) := ZH (by rw [hYl2]; omega) (by omega)
  have ix2 : Qx 6 (.rs i ver 6 k (l.length - k)) (.int .i64 ((W.length + Y0.length - k : Nat) : Int)) = some (.ptr i ver ((W.length + Y0.length) * 6)) := by
   rw [V5 (by omega)]
   congr 3; omega
  have e1 : W ++ (Y0 ++ [p]) ++ y :: Q = (W ++ Y0 ++ [p]) ++ y :: Q := by simp
  have e2 : W ++ (Y0 ++ [p]) ++ y :: Q = (W ++ Y0) ++ p :: (y :: Q) := by simp
  have l1 := YE (ver := ver) (rest := rest) hi e1 (j := W.length + Y0.length + 1) (by simp [Nat.add_assoc])
  have l2 := YE (ver := ver) (rest := rest) hi e2 (j := W.length + Y0.length) (by simp)
  have cm := fun G => (show E Bv ([Qd y,Qd p] ++ []) G = _ from QeF hy hp G)
  have wj : IntKind.i64.wrap (((W.length + (Y0 ++ [p]).length - k : Nat) : Int) + 1) = ((W.length + (Y0 ++ [p]).length - k + 1 : Nat) : Int) := ZH (by omega) (by rw [hYl2]; omega)
  have j3 : ∀ t G,Pi H.length (.rs i ver 6 0 l.length) FD t (.rs i ver 6 k (l.length - k)) (.int .i64 ((W.length + (Y0 ++ [p]).length - k : Nat) : Int)) G = RO H.length (.rs i ver 6 0 l.length) FD t (.rs i ver 6 k (l.length - k)) (.int .i64 ((W.length + (Y0 ++ [p]).length - k + 1 : Nat) : Int)) G := fun t G => by
   rw [Qic]; simp only [Qah,Qdx,wj]
  by_cases he : txt y = txt p
  ·obtain ⟨rest',ih1⟩ := ih (Y0 ++ [p] ++ [y]) W y (by simp) (by omega) (fun z hz => hw z (by simp at hz ⊢; rcases hz with h | h <;> simp [h])) (by rw [hd,Yt,if_pos he]) (by rw [← hlen]; simp) hk
   refine ⟨rest',?_⟩
   have e3 : W.length + (Y0 ++ [p] ++ [y]).length - k = W.length + (Y0 ++ [p]).length - k + 1 := by simp; omega
   have e4 : W ++ (Y0 ++ [p] ++ [y]) ++ Q = W ++ (Y0 ++ [p]) ++ y :: Q := by simp
   rw [e3,e4] at ih1
   rw [Am]
   simp only [Qah,Qab,Qbd,Qbc,Qep,Qfu,Qfb,Qdx,Qel,Qef,decide_true,Bool.not_true,h',ix,l1,wm,ix2,l2,cm,he,j3]
   exact ih1
  ·-- kept
   obtain ⟨u,U,hU⟩ : ∃ u U,Y0 ++ [p] = u :: U := by
    cases hh : Y0 ++ [p] with
    | nil => simp at hh
    | cons u U => exact ⟨u,U,rfl⟩
   have hUl : U.length = Y0.length := by have := congrArg List.length hU; simp at this; omega
   obtain ⟨rest',ih1⟩ := ih (U ++ [y]) (W ++ [y]) y (by simp) (by omega) (fun z hz => hw z (by simp at hz ⊢; rcases hz with h | h <;> simp [h])) (by rw [hd,Yt,if_neg he]; simp) (by rw [← hlen]; simp; omega) (by simp; omega)
   refine ⟨rest',?_⟩
   have ixk := YI (i := i) (ver := ver) (N := l.length) (j := W.length) (by omega)
   have e5 : W ++ (Y0 ++ [p]) ++ y :: Q = W ++ u :: (U ++ y :: Q) := by rw [hU]; simp
   have s1 := KW (O := H.length) (ver := ver) (rest := rest) hi e5 (j := W.length) rfl y
   have wk' := YP (a := W.length) (by omega)
   have e3 : (W ++ [y]).length + (U ++ [y]).length - k = W.length + (Y0 ++ [p]).length - k + 1 := by simp [hUl]; omega
   have e4 : (W ++ [y]) ++ (U ++ [y]) ++ Q = W ++ y :: (U ++ y :: Q) := by simp
   have e6 : (W ++ [y]).length = W.length + 1 := by simp
   rw [e3,e4,e6] at ih1
   rw [Am]
   simp only [Qah,Qag,Qab,Qbd,Qep,Qfu,Qfb,Qdx,Qel,Qef,decide_true,decide_false,Bool.not_false,h',ix,l1,wm,ix2,l2,cm,he,j3,ixk,s1,wk']
   exact ih1
theorem Qje {H : Qa} {i ver : Nat} {rest : List V} (hi : i < H.length) {l : List X} (hl : l.length ≤ 1000000000000) : ∀ (Q P : List X) (p : X),(∀ z ∈ p :: Q,Wf z) → l = P ++ p :: Q → dd l = P ++ p :: Yt p Q →
  ∃ rest',Ej H.length (.rs i ver 6 0 l.length) FD (.int .i64 ((P.length + 1 : Nat) : Int)) (RH H i ver rest l) =
   some (.ret (.rs i ver 6 0 (dd l).length),RH H i ver rest' (dd l)) := by
 intro Q
 induction Q with
 | nil =>
  intro P p hw hle hd
  have hNs : P.length + 1 = l.length := by rw [hle]; simp
  have h' : ¬ ((P.length + 1 : Nat) : Int) < (l.length : Int) := by omega
  have e : dd l = l := by rw [hd,Yt]; exact hle.symm
  have hmr : i + 1 ≤ H.length := hi
  have hrt : rt false H.length (.rs i ver 6 0 l.length) (RH H i ver rest l) = some (.ret (.rs i ver 6 0 l.length),RH H i ver rest l) := by
   rw [Qgh,Qbe,frz]
   simp only [hi,if_true,Qga,V.maxRef,hmr]
   rw [UR (by simp)]
  refine ⟨rest,?_⟩
  rw [e,Cy]
  simp only [Qah,Qbc,Qep,Qfb,Qdx,Qel,Qef,decide_false,List.append_nil,h',hrt]
 | cons y Q ih =>
  intro P p hw hle hd
  have hNs : P.length + 1 + (Q.length + 1) = l.length := by rw [hle]; simp; omega
  have hp : Wf p := hw p (by simp)
  have hy : Wf y := hw y (by simp)
  have h' : ((P.length + 1 : Nat) : Int) < (l.length : Int) := by omega
  have ix := YI (i := i) (ver := ver) (N := l.length) (j := P.length + 1) (by omega)
  have ix2 := YI (i := i) (ver := ver) (N := l.length) (j := P.length) (by omega)
  have wm := CL (a := P.length) (by omega)
  have e1 : l = (P ++ [p]) ++ y :: Q := by rw [hle]; simp
  have l1 := YE (ver := ver) (rest := rest) hi e1 (j := P.length + 1) (by simp)
  have l2 := YE (ver := ver) (rest := rest) hi hle (j := P.length) rfl
  have cm := fun G => (show E Bv ([Qd y,Qd p] ++ []) G = _ from QeF hy hp G)
  by_cases he : txt y = txt p
  ·have sl := Ah (i := i) (v := ver) (n := l.length) (a := P.length + 1) (by omega)
   obtain ⟨rest',q⟩ := QjJ (ver := ver) (k := P.length + 1) (rest := rest) hi hl Q [y] (P ++ [p]) y (by simp) (by omega) (fun z hz => hw z (by simp at hz ⊢; rcases hz with h | h <;> simp [h])) (by rw [hd,Yt,if_pos he]; simp) (by rw [hle]; simp) (by simp)
   refine ⟨rest',?_⟩
   have e2 : (P ++ [p]).length + [y].length - (P.length + 1) = 1 := by simp
   have e3 : (P ++ [p]).length = P.length + 1 := by simp
   have e4 : P ++ [p] ++ [y] ++ Q = l := by rw [hle]; simp
   rw [e2,e3,e4] at q
   simp only [Qam] at q
   rw [Cy]
   simp only [Qah,Qab,Qbd,Qep,Qfb,Qdx,Qel,Qef,Qgh,Qbe,decide_true,Nat.reduceAdd,h',ix,ix2,l1,wm,l2,cm,he,sl]
   exact q
  ·obtain ⟨rest',q⟩ := ih (P ++ [p]) y (fun z hz => hw z (by simp at hz ⊢; rcases hz with h | h <;> simp [h])) e1 (by rw [hd,Yt,if_neg he]; simp)
   refine ⟨rest',?_⟩
   have e3 : (P ++ [p]).length = P.length + 1 := by simp
   have wk' := YP (a := P.length + 1) (by omega)
   rw [e3] at q
   rw [Cy]
   simp only [Qah,Qab,Qbd,Qbc,Qep,Qfb,Qdx,Qel,Qef,Qgh,Qbe,decide_true,decide_false,Nat.reduceAdd,h',ix,ix2,l1,wm,l2,cm,he,wk']
   exact q
theorem QhQ {H : Qa} {i ver : Nat} {rest : List V} {l : List X} (hg : Qh H i = some (Q9 ver l rest)) (hl : l.length ≤ 1000000000000) (hw : ∀ z ∈ l,Wf z) :
  ∃ rest',E Fe [.rs i ver 6 0 l.length,FD] H = some (.ret (.rs i ver 6 0 (dd l).length),RH H i ver rest' (dd l)) := by
 have hi := Q4 hg
 have hmr : i + 1 ≤ H.length := hi
 have hrt : ∀ n,rt false H.length (.rs i ver 6 0 n) H = some (.ret (.rs i ver 6 0 n),H) := fun n => by
  rw [Qgh,Qbe,frz]
  simp only [hi,if_true,Qga,V.maxRef,hmr,Qcx]
 have hself := Va hg
 rw [XK,Qb7]
 match l,hself with
 | [],hself =>
  refine ⟨rest,?_⟩
  have h2 : (0 : Int) < 2 := by decide
  have hH : RH H i ver rest [] = H := hself
  simp only [Qah,Qbd,Qfb,Qef,Qam,decide_true,List.length_nil,Qam,h2,hrt,dd]
  rw [hH]
 | [x],hself =>
  refine ⟨rest,?_⟩
  have h2 : (1 : Int) < 2 := by decide
  have hH : RH H i ver rest [x] = H := hself
  simp only [Qah,Qbd,Qfb,Qef,Qam,decide_true,List.length_cons,List.length_nil,Nat.zero_add,Qam,h2,hrt,dd,Yt]
  rw [hH]
 | x :: y :: l,hself =>
  have h2 : ¬ (((x :: y :: l).length : Nat) : Int) < 2 := by simp only [List.length_cons]; omega
  obtain ⟨rest',q⟩ := Qje (ver := ver) (rest := rest) hi hl (y :: l) [] x hw rfl rfl
  refine ⟨rest',?_⟩
  have hH : RH H i ver rest (x :: y :: l) = H := hself
  rw [hH] at q
  simp only [List.length_nil,Nat.zero_add,Qam] at q
  simp only [Qah,Qbc,Qfb,Qef,Qgh,Qbe,decide_false,Nat.reduceAdd,h2,q]
theorem Qmx (H : Qa) : E Fe [.nils,FD] H = some (.ret (.vs []),H) := by
 rw [XK,Qb7]
 have h2 : (0 : Int) < 2 := by decide
 simp only [Qah,Qbd,Qfa,Qef,Qcx,Qgg,decide_true,h2]
theorem QdU {H G : Qa} {i ver : Nat} {rest : List V} {L : List X} (hU : Up H G) (hH : Qh G H.length = some (.var zX)) (hg : Qh G i = some (Q9 ver L rest)) (hb : H.length ≤ i) (hl : L.length ≤ 1000000000000) (hw : ∀ z ∈ L,Wf z) :
  ∃ M,Sd txt M ∧ St txt L M ∧ MS H.length (.rs i ver 6 0 L.length) (.ptr H.length 0 0) G = some (.ret (Qd (ofL (dd M) 4 0)),H) := by
 have hi := Q4 hg
 obtain ⟨M,m1,m2,m3⟩ := Qnq (rest := rest) hi hl hw hg
 refine ⟨M,m1,m2,?_⟩
 have hne : H.length ≠ i := by rintro rfl; rw [hg] at hH; cases hH
 have hML : M.length = L.length := m2.1
 obtain ⟨rest',c1⟩ := QhQ (H := RH G i ver rest M) (i := i) (ver := ver) (rest := rest) (l := M) (Qcl hi) (by omega) (St.wf m2 hw)
 rw [hML] at c1
 have hH2 : ∀ l r,Qh (RH (RH G i ver rest M) i ver r l) H.length = some (.var zX) := fun l r => by rw [JW hne,JW hne,hH]
 have o1 := Dk (H := RH (RH G i ver rest M) i ver rest' (dd M)) (Sl.rs i ver (dd M) rest' (Qcl (by simpa using hi))) 4 0
 have hrw : Rw (RH (RH G i ver rest M) i ver rest' (dd M)) (.rs i ver 6 0 (dd M).length) (dd M) := .rs i ver (dd M) rest' (Qcl (by simpa using hi))
 have hU2 : Up H (RH (RH G i ver rest M) i ver rest' (dd M)) := (hU.set hb _).set hb _
 obtain ⟨s1,s2,s3⟩ := DT hrw.scal (dd M) 4 0
 have st := Y6 (H := H) (G := RH (RH G i ver rest M) i ver rest' (dd M)) (t := H.length) (Nat.le_refl _) (cs := zX) rfl (hH2 _ _) s1 s2
 have hs : Qh (Qn (RH (RH G i ver rest M) i ver rest' (dd M)) H.length (.var (ofV (.rs i ver 6 0 (dd M).length) (dd M) 4 0).cells)) H.length = some (.var (ofV (.rs i ver 6 0 (dd M).length) (dd M) 4 0).cells) := Qcl (by simpa using Q4 hH)
 have hrw2 : Rw (Qn (RH (RH G i ver rest M) i ver rest' (dd M)) H.length (.var (ofV (.rs i ver 6 0 (dd M).length) (dd M) 4 0).cells)) (.rs i ver 6 0 (dd M).length) (dd M) := .rs i ver (dd M) rest' (by rw [JW hne.symm]; exact Qcl (by simpa using hi))
 have rr := AA hrw2 (H := H) (fun i' ver' n e => by cases e; exact hb) (hU2.set (Nat.le_refl _) _) 4 0
 rw [QaK]
 simp only [Qah,Qag,Qab,Qcz,List.drop_zero,Qj,m3,c1,o1,st,hs,s3]
 exact rr
theorem Qqn {H G : Qa} (hU : Up H G) (hH : Qh G H.length = some (.var zX)) : MS H.length .nils (.ptr H.length 0 0) G = some (.ret (Qd (ofL [] 4 0)),H) := by
 have m3 := Qp7 G
 have c1 := Qmx G
 have o1 := Dk (H := G) (Sl.vs []) 4 0
 have e : ofV (.vs (Qw [])) [] 4 0 = Qd (.mk 0 S4.zero []) := rfl
 rw [e] at o1
 have st := Y6 (H := H) (G := G) (t := H.length) (Nat.le_refl _) (cs := zX) rfl hH (x := Qd (.mk 0 S4.zero [])) (by simp) (by simp)
 have hs : Qh (Qn G H.length (.var (Qd (.mk 0 S4.zero [])).cells)) H.length = some (.var (Qd (.mk 0 S4.zero [])).cells) := Qcl (Q4 hH)
 have hT := (hU.set (i := H.length) (Nat.le_refl _) (.var (Qd (.mk 0 S4.zero [])).cells)).trunc
 simp only [Qw] at o1
 rw [QaK]
 simp only [Qah,Qag,Qab,Qcz,Qhi,Qbg,Qbf,Qbo,Qbl,List.drop_zero,Qj,Nat.le_refl,m3,c1,o1,st,hs,Zx,hT,ofL]
theorem Qo2 {H : Qa} {v : V} {l : List X} (hl : l.length ≤ 1000000000000) (hok : ∀ x ∈ l,x.ok) {c : Nat} (hc : H.length ≤ c) : ∀ (m i : Nat) (s : S4) (G : Qa),l.length - i = m → i ≤ l.length → s.ok → Rw G v l → Qh G c = some (.var s.cs) → Up H G →
  ∃ G',Ux H.length v (.ptr H.length 0 0) (.ptr c 0 0) v (.int .i64 (l.length : Int)) (.int .i64 (i : Int)) G = Ux H.length v (.ptr H.length 0 0) (.ptr c 0 0) v (.int .i64 (l.length : Int)) (.int .i64 (l.length : Int)) G' ∧
   Qh G' c = some (.var (Yn s (l.drop i)).cs) ∧ Up H G' ∧ G.length ≤ G'.length ∧ ∀ j,j < G.length → j ≠ c → Qh G' j = Qh G j := by
 intro m
 induction m with
 | zero =>
  intro i s G hm hi hs hr hg hU
  obtain rfl : i = l.length := by omega
  exact ⟨G,rfl,by rw [List.drop_of_length_le (Nat.le_refl _)]; exact hg,hU,Nat.le_refl _,fun _ _ _ => rfl⟩
 | succ m ih =>
  intro i s G hm hi hs hr hg hU
  have h : i < l.length := by omega
  have h' : (i : Int) < (l.length : Int) := by omega
  have w1 := YP (a := i) (by omega)
  have hcl := Q4 hg
  obtain ⟨p,p0,p5,q1,q2,-⟩ := hr.sl.at h
  have hx := hok l[i] (List.getElem_mem h)
  obtain ⟨kk,sx,ks,e⟩ : ∃ k s ks,l[i] = .mk k s ks := by cases l[i] with | mk k s ks => exact ⟨k,s,ks,rfl⟩
  have hd : l.drop i = l[i] :: l.drop (i + 1) := List.drop_eq_getElem_cons h
  have up1 : ∀ G2,Rw G v l → (∀ j,j < G.length → j ≠ c → Qh G2 j = Qh G j) → Rw G2 v l := fun G2 hr hj => by
   cases hr with
   | nils => exact .nils
   | rs j ver l rest hg2 =>
    have : j ≠ c := by rintro rfl; rw [hg] at hg2; cases hg2
    exact .rs j ver l rest (by rw [hj j (Q4 hg2) this]; exact hg2)
  have j2 : ∀ G2,PI H.length v (.ptr H.length 0 0) (.ptr c 0 0) v (.int .i64 (l.length : Int)) (.int .i64 (i : Int)) G2 = Ux H.length v (.ptr H.length 0 0) (.ptr c 0 0) v (.int .i64 (l.length : Int)) (.int .i64 ((i + 1 : Nat) : Int)) G2 := fun G2 => by
   rw [QoU]; simp only [Qah,Qdx,w1]
  rw [hd]
  by_cases hk : l[i].k = 2
  ·have hjf : Yn s (l[i] :: l.drop (i + 1)) = Yn (s.join l[i].s) (l.drop (i + 1)) := by
    unfold Yn; rw [List.foldl_cons,if_pos hk]
   rw [hjf]
   have hjs : ∀ j,j < G.length → j ≠ c → Qh (Qn (.var (Qd l[i]).cells :: G) c (.var (s.join l[i].s).cs)) j = Qh G j := fun j hj hjc => by rw [JW hjc,Qck hj]
   obtain ⟨G',g1,g2,g3,g4,g5⟩ := ih (i + 1) (s.join l[i].s) (Qn (.var (Qd l[i]).cells :: G) c (.var (s.join l[i].s).cs)) (by omega) (by omega) (S4.join_ok hs (X.ok_set hx)) (up1 _ hr hjs) (Qcl (by simp; omega)) ((hU.cons _).set hc _)
   simp only [JB,List.length_cons] at g4 g5
   refine ⟨G',?_,g2,g3,by omega,fun j hj hjc => by rw [g5 j (by omega) hjc,hjs j hj hjc]⟩
   have bj := fun H => QkB hs (X.ok_set hx) H
   rw [F1,← g1]
   rw [e] at hk bj q2 ⊢
   simp only [X.k] at hk
   subst hk
   simp only [X.s] at bj ⊢
   rw [QE] at q2 ⊢
   simp only [Qan]
   have hfit : fits H.length c 0 = true := by simp [fits]
   have hsp : splice s.cs 0 (s.join sx).cs = (s.join sx).cs := rfl
   simp only [Qah,Qag,Qab,Qbd,Qet,Qeb,Qef,Qcz,Qhj,Qan,Qgo,Qgn,Qgs,Qgy,Qhc,Qdi,Qdt,Qde,Qdd,Qdc,Qhh,Qhf,Qck,Qco,Qcj,Qcn,Qfv,Qhi,decide_true,if_true,List.drop_zero,List.drop_succ_cons,List.length_cons,List.length_nil,Nat.add_zero,Nat.zero_add,Bool.and_true,List.append_nil,Nat.reduceAdd,Qj,Qz,List.drop_nil,Qu,Nat.le_refl,Nat.zero_le,or_true,and_self,Nat.max_self,List.take_zero,List.take_succ_cons,h',q1,q2,hg,hcl,bj,hfit,hsp,j2]
  ·have hjf : Yn s (l[i] :: l.drop (i + 1)) = Yn s (l.drop (i + 1)) := by
    unfold Yn; rw [List.foldl_cons,if_neg hk]
   rw [hjf]
   have hjs : ∀ j,j < G.length → j ≠ c → Qh (.var (Qd l[i]).cells :: G) j = Qh G j := fun j hj hjc => by rw [Qck hj]
   obtain ⟨G',g1,g2,g3,g4,g5⟩ := ih (i + 1) s (.var (Qd l[i]).cells :: G) (by omega) (by omega) hs (up1 _ hr hjs) (by rw [Qck hcl]; exact hg) (hU.cons _)
   simp only [List.length_cons] at g4 g5
   refine ⟨G',?_,g2,g3,by omega,fun j hj hjc => by rw [g5 j (by omega) hjc,hjs j hj hjc]⟩
   rw [F1,← g1]
   rw [e] at hk q2 ⊢
   simp only [X.k] at hk
   rw [QE] at q2 ⊢
   simp only [Qan]
   simp only [Qah,Qag,Qbd,Qbc,Qet,Qeb,Qef,Qcz,Qhj,Qan,Qgo,Qgn,Qgs,Qgy,Qhc,Qdi,Qdt,Qde,Qdd,Qdc,Qhh,Qhf,Qcj,Qcn,Qfv,Qhi,decide_true,decide_false,if_true,List.drop_zero,List.drop_succ_cons,List.length_cons,List.length_nil,Nat.add_zero,Nat.zero_add,Bool.and_true,List.append_nil,Nat.reduceAdd,Qj,Qz,List.drop_nil,Qu,Nat.le_refl,Nat.zero_le,or_true,and_self,Nat.max_self,List.take_zero,List.take_succ_cons,h',q1,q2,hk,j2]
theorem Xz {m M : List X} (h1 : Sd txt M) (h2 : St txt (Zp (Zh m) ++ Zy m) M) : dd M = (Zy m).foldl (fun a r => Q3 r a) (Zp (Zh m)) := QhV (Xg _) h1 h2
theorem Wf.of {l : List X} (hn : Qk l ≤ 900000000000) (h : ∀ x ∈ l,x.ok) : ∀ z ∈ l,Wf z := fun z hz => ⟨Nat.le_trans (Yv hz) hn,h z hz⟩
set_option maxHeartbeats 1000000 in
theorem XL {H : Qa} {v : V} {l : List X} (hv : Sl H v l) (hn : Qk l ≤ 900000000000) (hok : ∀ x ∈ l,x.ok) : E Fl [v] H = some (.ret (Qd (Ze l)),H) := by
 have hfl := PM (k := 4) l
 have hfs := Uy (k := 4) l
 have hll := Yq l
 have hok2 := Pg (k := 4) hok
 have hwf := Wf.of (l := flatK 4 l) (by omega) hok2
 unfold Ze
 obtain ⟨v1,G1,a1,a2,a3⟩ := QeJ (k := 4) (hv.up ((Up.refl H).cons (.var zX))) (by omega) (by omega)
 have hfl' : (flatK 4 l).length ≤ 900000000000 := by omega
 generalize flatK 4 l = m at *
 have hU1 : Up H G1 := ((Up.refl H).cons _).trans a3
 have hH1 : Qh G1 H.length = some (.var zX) := by rw [a3.get (by simp)]; simp
 have i1 := FW 0 G1
 have a4 := (a2.up ((Up.refl G1).cons (.var [.int .i64 0])))
 have hHv : Qh (.var [.int .i64 0] :: G1) H.length = some (.var zX) := by rw [Qck (Q4 hH1)]; exact hH1
 have hUv : Up H (.var [.int .i64 0] :: G1) := hU1.cons _
 have ne2 := fun G => FW 2 G
 have hs0 : S4.zero.cs = [.int .u64 0,.int .u64 0,.int .u64 0,.int .u64 0] := rfl
 rw [QhX,Qq4]
 cases a4 with
 | nils =>
  have d1 := DL (H := .var [.int .i64 0] :: G1) (c := G1.length) (k := 0)
  have hG3 : Up H (.var S4.zero.cs :: .var [.int .i64 0] :: G1) := hUv.cons _
  have d2 := DL (H := .var [.int .i64 2] :: .var S4.zero.cs :: .var [.int .i64 0] :: G1) (c := G1.length + 1 + 1) (k := 2)
  have e0 := neS S4.zero S4.zero
  have hH4 : Qh (.var [.int .i64 2] :: .var S4.zero.cs :: .var [.int .i64 0] :: G1) H.length = some (.var zX) := by
   have := Q4 hH1
   rw [Qck (by simp; omega),Qck (by simp; omega)]; exact hHv
  have j3 := Qqn (H := H) (hG3.cons (.var [.int .i64 2])) hH4
  have ez : decide (S4.zero = S4.zero) = true := decide_eq_true rfl
  rw [ez] at e0
  rw [hs0] at d2 e0 j3
  simp only [Qah,Qag,Qab,Qfa,Qan,Qgo,Qgn,Qgs,Qgy,Qfv,List.length_cons,Bool.and_true,a1,i1,d1,Int.lt_irrefl]
  rw [F1]
  simp only [Qah,Qag,Qab,Qbc,Qet,Qef,Qcz,Qan,Qgo,Qgn,Qgs,Qgy,Qck,Qcj,Qfv,Qhi,decide_false,Bool.not_true,List.drop_zero,List.length_cons,List.length_nil,Nat.add_zero,Nat.zero_add,Bool.and_true,Nat.reduceAdd,Qj,Nat.le_refl,Nat.lt_add_one,List.take_zero,List.take_succ_cons,Int.lt_irrefl,ne2,d2,bS0,hs0,e0,j3]
  rfl
 | rs i ver _ hb hg =>
  have hgB : Qh (.var [.int .i64 0] :: G1) i = some (Q9 ver m []) := by rw [hg]; simp [Q9]
  have hbi : H.length ≤ i := by simp only [List.length_cons] at hb; omega
  have hilt := Q4 hgB
  obtain ⟨rest1,d1,d2⟩ := CI (c := G1.length) (k := 0) hgB (by simp) (by omega)
  obtain ⟨l1,hl1⟩ : ∃ l1,l1 = Z6 0 m := ⟨_,rfl⟩
  rw [← hl1] at d1 d2
  have hl1sub : ∀ x ∈ l1,x ∈ m := fun x hx => by rw [hl1] at hx; exact (List.mem_filter.1 hx).1
  have hl1len : l1.length ≤ m.length := by rw [hl1]; exact List.length_filter_le _ _
  have hneH : H.length ≠ i := by rintro rfl; rw [hHv] at hgB; cases hgB
  obtain ⟨G2,hG2⟩ : ∃ G2,G2 = Qn (.var [.int .i64 0] :: G1) i (Q9 ver l1 rest1) := ⟨_,rfl⟩
  rw [← hG2] at d1
  have hG2i : Qh G2 i = some (Q9 ver l1 rest1) := by rw [hG2]; exact Qcl hilt
  have hG2H : Qh G2 H.length = some (.var zX) := by rw [hG2,JW hneH]; exact hHv
  have hU2 : Up H G2 := by rw [hG2]; exact hUv.set hbi _
  have hG2l : i < G2.length := Q4 hG2i
  obtain ⟨G3,g1,g2,g3,g4,g5⟩ := Qo2 (H := H) (v := .rs i ver 6 0 l1.length) (l := l1) (by omega) (fun x hx => hok2 x (hl1sub x hx)) (c := G2.length) hU2.len l1.length 0 S4.zero (.var S4.zero.cs :: G2) (by omega) (Nat.zero_le _) S4.zero_ok
   (.rs i ver l1 rest1 (by rw [Qck hG2l]; exact hG2i)) (by simp) (hU2.cons _)
  rw [List.drop_zero] at g2
  obtain ⟨s,hs⟩ : ∃ s,s = Yn S4.zero l1 := ⟨_,rfl⟩
  have hsB : s = Zh m := by rw [hs,hl1,EB]; rfl
  have hsok : s.sm := by rw [hs]; exact Lm S4.zero_sm fun x hx => hok2 x (hl1sub x hx)
  rw [← hs] at g2
  simp only [List.length_cons] at g4 g5
  have hG3i : Qh G3 i = some (Q9 ver l1 rest1) := by rw [g5 i (by omega) (by omega),Qck hG2l]; exact hG2i
  have hG3H : Qh G3 H.length = some (.var zX) := by
   have := Q4 hG2H
   rw [g5 H.length (by omega) (by omega),Qck this]; exact hG2H
  have hi3 := Q4 hG3i
  have hG4i : Qh (.var [.int .i64 2] :: G3) i = some (Q9 ver l1 rest1) := by rw [Qck hi3]; exact hG3i
  obtain ⟨rest2,f1,f2⟩ := CI (c := G3.length) (k := 2) hG4i (by simp) (by omega)
  obtain ⟨l2,hl2⟩ : ∃ l2,l2 = Z6 2 l1 := ⟨_,rfl⟩
  have hl2o : l2 = Zy m := by rw [hl2,hl1]; exact Qpa m
  rw [← hl2] at f1 f2
  have hl2len : l2.length ≤ l1.length := by rw [hl2]; exact List.length_filter_le _ _
  have hl2sub : ∀ x ∈ l2,x ∈ m := fun x hx => hl1sub x (by rw [hl2] at hx; exact (List.mem_filter.1 hx).1)
  obtain ⟨G5,hG5⟩ : ∃ G5,G5 = Qn (.var [.int .i64 2] :: G3) i (Q9 ver l2 rest2) := ⟨_,rfl⟩
  rw [← hG5] at f1
  have hG5i : Qh G5 i = some (Q9 ver l2 rest2) := by rw [hG5]; exact Qcl (by simp; omega)
  have hG5H : Qh G5 H.length = some (.var zX) := by rw [hG5,JW hneH,Qck (Q4 hG3H)]; exact hG3H
  have hG5c : Qh G5 G2.length = some (.var s.cs) := by rw [hG5,JW (by omega),Qck (Q4 g2)]; exact g2
  have hU5 : Up H G5 := by rw [hG5]; exact (g3.cons _).set hbi _
  have ns := neS s S4.zero
  have tS : ZJ true 4 s.cs = some (.agg s.cs) := rfl
  have lt1 : ¬ (l1.length : Int) < (l1.length : Int) := by omega
  have tail : Ux H.length (.rs i ver 6 0 l1.length) (.ptr H.length 0 0) (.ptr G2.length 0 0) (.rs i ver 6 0 l1.length) (.int .i64 (l1.length : Int)) (.int .i64 (l1.length : Int)) G3 = some (.ret (Qd (ofL ((Zy m).foldl (fun a r => Q3 r a) (Zp (Zh m))) 4 0)),H) := by
   rw [F1]
   by_cases hz : s = S4.zero
   ·have hbase : Zp (Zh m) = [] := by rw [← hsB,hz]; rfl
    obtain ⟨M,m1,m2,m3⟩ := QdU (H := H) hU5 hG5H hG5i hbi (by omega) (fun z hz => hwf z (hl2sub z hz))
    have hf := Xz (m := m) m1 (by rw [hbase,List.nil_append,← hl2o]; exact m2)
    rw [← hf]
    rw [decide_eq_true hz] at ns
    simp only [Qah,Qag,Qab,Qbc,Qet,Qef,Qcz,Qan,Qgo,Qgn,Qgs,Qgy,Qfv,Qhi,decide_false,Bool.not_true,List.drop_zero,List.length_cons,List.length_nil,Nat.add_zero,Nat.zero_add,Bool.and_true,Nat.reduceAdd,Qj,Nat.le_refl,List.take_zero,List.take_succ_cons,lt1,ne2,f1,hG5c,bS0,ns]
    exact m3
   ·have hbase : Zp (Zh m) = [.mk 2 s []] := by rw [← hsB]; unfold Zp; rw [if_neg hz]
    have hlt2 : l2.length < l1.length := by
     have : ∃ x ∈ l1,x.k = 2 := by
      refine Classical.byContradiction fun hc => hz ?_
      rw [hs]
      exact BJ _ fun x hx h2 => hc ⟨x,hx,h2⟩
     obtain ⟨x,hx,h2⟩ := this
     rw [hl2]
     exact Qj3 hx (by simp [h2])
    have ins := QmL (X.mk 2 s []) hG5i (by omega) (by omega)
    have o := QlC s G5
    have eo : ofX s = .mk 2 s [] := by unfold ofX; rw [if_neg hz]
    rw [eo] at o
    have hG6i : Qh (Qn G5 i (Q9 ver (X.mk 2 s [] :: l2) (rest2.drop 6))) i = some (Q9 ver (X.mk 2 s [] :: l2) (rest2.drop 6)) := Qcl (Q4 hG5i)
    obtain ⟨M,m1,m2,m3⟩ := QdU (H := H) (hU5.set hbi _) (by rw [JW hneH]; exact hG5H) hG6i hbi (by simp; omega) (fun z hz2 => by
     rcases List.mem_cons.1 hz2 with rfl | hz2
     ·exact ⟨by simp [X.size,Qk],hsok,trivial⟩
     ·exact hwf z (hl2sub z hz2))
    have hf := Xz (m := m) m1 (by rw [hbase,← hl2o]; exact m2)
    rw [← hf]
    rw [decide_eq_false hz] at ns
    simp only [Qah,Qag,Qab,Qbd,Qbc,Qet,Qef,Qcz,Qan,Qgo,Qgn,Qgs,Qgy,Qfv,Qfe,decide_false,Bool.not_false,List.drop_zero,Nat.add_zero,Nat.zero_add,Bool.and_true,Qj,lt1,ne2,f1,hG5c,bS0,tS,ns,o,ins]
    exact m3
  rw [tail] at g1
  rw [hs0] at g1
  have hG2len : G2.length = G1.length + 1 := by rw [hG2]; simp
  simp only [Qam] at g1
  simp only [Qah,Qag,Qab,Qfb,Qan,Qgo,Qgn,Qgs,Qgy,Qfv,Bool.and_true,a1,i1,d1]
  exact g1
theorem Eh (s t : List UInt8) : Qb .gtr 6 (.str s) (.str t) = some (.bool (!(Op.bytesLess s t || s == t))) := by
 rw [Pa _ _ _ _ (by simp) (by simp)]; rfl
theorem QfA {s t : List UInt8} (h : ¬ s = t) : (!(Op.bytesLess s t || s == t)) = Op.bytesLess t s := by
 have e : (s == t) = false := by simpa using h
 rw [e,Bool.or_false,RI,RI,Bool.eq_iff_iff]
 rcases Ut s t with c | c | c
 ·rw [KY s t,c]; decide
 ·exact absurd (UX _ _ c) h
 ·rw [KY s t,c]; decide
theorem Qlg {H0 : Qa} {v : V} {l : List X} (hv : Sl H0 v l) (hl : l.length ≤ 900000000000) (hw : ∀ z ∈ l,Wf z) {r : X} : ∀ (m i : Nat),l.length - i = m → i ≤ l.length → ∀ (pre : List X) (o : V) (G : Qa),pre.length ≤ i + 2 → Out7 (H0.length + 1) G o pre → Up (.var (Qd r).cells :: H0) G →
  NV H0.length v (.ptr H0.length 0 0) o (.str (txt r)) (.bool true) (.int .i64 (i : Int)) G = some (.ret (.vs (Qw (pre ++ l.drop i))),H0) := by
 intro m
 induction m with
 | zero =>
  intro i hm hi pre o G hp ho hU
  have hU0 : Up H0 G := ((Up.refl H0).cons _).trans hU
  have h' : ¬ (i : Int) < (l.length : Int) := by omega
  have hr := Out7.ret (H := H0) (G := G) (v := o) (l := pre) (by
   cases ho with
   | nils => exact .nils
   | rs j ver _ hb hg => exact .rs j ver _ (by omega) hg) hU0
  rw [List.drop_of_length_le (by omega),List.append_nil,Bj]
  simp only [Qah,Qbc,Qfu,Qef,decide_false,Bool.not_true,Qj,(hv.up hU0).len,h']
  rw [QaD]
  exact hr
 | succ m ih =>
  intro i hm hi pre o G hp ho hU
  have hU0 : Up H0 G := ((Up.refl H0).cons _).trans hU
  have h : i < l.length := by omega
  have h' : (i : Int) < (l.length : Int) := by omega
  have w1 := YP (a := i) (by omega)
  obtain ⟨p,p0,p5,q1,q2,-⟩ := (hv.up hU0).at h
  have hx := hw l[i] (List.getElem_mem h)
  have t1 := fun H => FA 900000000000 l[i] hx.1 (Nat.le_refl _) hx.2 H
  have lt := Qfe (.agg [.int .i64 0,.int .u64 0,.int .u64 0,.int .u64 0,.int .u64 0,.vs []]) l[i]
  obtain ⟨v1,G1,a1,a2,a3⟩ := Out7.appB (H := (.var (Qd r).cells :: H0 : Qa)) (b := H0.length) (by simp) ho hU [l[i]] (by simp; omega)
  have k := ih (i + 1) (by omega) (by omega) (pre ++ [l[i]]) v1 G1 (by simp; omega) a2 a3
  have e : pre ++ [l[i]] ++ l.drop (i + 1) = pre ++ l.drop i := by rw [List.drop_eq_getElem_cons h]; simp
  rw [e] at k
  simp only [Qw] at a1
  have j3 : RB H0.length v (.ptr H0.length 0 0) o (.str (txt r)) (.bool true) (.int .i64 (i : Int)) G = some (.ret (.vs (Qw (pre ++ l.drop i))),H0) := by
   rw [Ab]
   simp only [Qah,Qag,q1,q2,lt,a1]
   rw [E9]
   simp only [Qah,Qdx,w1]
   exact k
  have j2 : PN H0.length v (.ptr H0.length 0 0) o (.str (txt r)) (.bool true) (.int .i64 (i : Int)) (.str (txt l[i])) G = some (.ret (.vs (Qw (pre ++ l.drop i))),H0) := by
   rw [LC]
   cases hb : (!(Op.bytesLess (txt l[i]) (txt r) || txt l[i] == txt r)) <;> simp only [Qah,Qbc,Qci,Qcf,Qfm,Qfr,Qfq,Qfu,Bool.not_true,Qj,Eh,hb,j3]
  rw [Bj]
  cases he : decide (txt l[i] = txt r) <;> simp only [Qah,Qab,Qbd,Qbc,Qfu,Qef,Qej,decide_true,Bool.not_true,Qj,(hv.up hU0).len,h',q1,q2,t1,he,j2]
theorem QnF {H0 : Qa} {v : V} {l : List X} (hv : Sl H0 v l) (hl : l.length ≤ 900000000000) (hw : ∀ z ∈ l,Wf z) {r : X} : ∀ (m i : Nat),l.length - i = m → i ≤ l.length → ∀ (pre : List X) (o : V) (G : Qa),pre.length = i → Out7 (H0.length + 1) G o pre → Up (.var (Qd r).cells :: H0) G →
  NV H0.length v (.ptr H0.length 0 0) o (.str (txt r)) (.bool false) (.int .i64 (i : Int)) G = some (.ret (.vs (Qw (pre ++ Q3 r (l.drop i)))),H0) := by
 intro m
 induction m with
 | zero =>
  intro i hm hi pre o G hp ho hU
  have hU0 : Up H0 G := ((Up.refl H0).cons _).trans hU
  have h' : ¬ (i : Int) < (l.length : Int) := by omega
  have hr0 : Qh G H0.length = some (.var (Qd r).cells) := by rw [hU.get (by simp)]; simp
  have lt := Qfe (.agg [.int .i64 0,.int .u64 0,.int .u64 0,.int .u64 0,.int .u64 0,.vs []]) r
  obtain ⟨v1,G1,a1,a2,a3⟩ := Out7.appB (H := (.var (Qd r).cells :: H0 : Qa)) (b := H0.length) (by simp) ho hU [r] (by simp; omega)
  have hU1 : Up H0 G1 := ((Up.refl H0).cons _).trans a3
  have hr := Out7.ret (H := H0) (G := G1) (v := v1) (l := pre ++ [r]) (by
   generalize pre ++ [r] = L at a2 ⊢
   cases a2 with
   | nils => exact .nils
   | rs j ver _ hb hg => exact .rs j ver _ (by simp only [List.length_cons] at hb; omega) hg) hU1
  simp only [Qw] at a1
  rw [List.drop_of_length_le (by omega),Bj]
  simp only [Qah,Qag,Qbd,Qbc,Qfu,Qef,Qcz,Qhi,Qbg,Qbf,Qbo,decide_false,Bool.not_false,List.drop_zero,Qj,Nat.le_refl,(hv.up hU0).len,h',hr0,Zx,lt,a1]
  rw [QaD]
  exact hr
 | succ m ih =>
  intro i hm hi pre o G hp ho hU
  have hU0 : Up H0 G := ((Up.refl H0).cons _).trans hU
  have h : i < l.length := by omega
  have h' : (i : Int) < (l.length : Int) := by omega
  have w1 := YP (a := i) (by omega)
  have hr0 : Qh G H0.length = some (.var (Qd r).cells) := by rw [hU.get (by simp)]; simp
  obtain ⟨p,p0,p5,q1,q2,-⟩ := (hv.up hU0).at h
  have hx := hw l[i] (List.getElem_mem h)
  have t1 := fun H => FA 900000000000 l[i] hx.1 (Nat.le_refl _) hx.2 H
  have lt := Qfe (.agg [.int .i64 0,.int .u64 0,.int .u64 0,.int .u64 0,.int .u64 0,.vs []]) l[i]
  have lr := Qfe (.agg [.int .i64 0,.int .u64 0,.int .u64 0,.int .u64 0,.int .u64 0,.vs []]) r
  have hd : l.drop i = l[i] :: l.drop (i + 1) := List.drop_eq_getElem_cons h
  have follow : ∀ (pre : List X) (o : V) (G : Qa),pre.length ≤ i + 1 → Out7 (H0.length + 1) G o pre → Up (.var (Qd r).cells :: H0) G →
    RB H0.length v (.ptr H0.length 0 0) o (.str (txt r)) (.bool true) (.int .i64 (i : Int)) G = some (.ret (.vs (Qw (pre ++ l.drop i))),H0) := by
   intro pre o G hp ho hU
   have hU0 : Up H0 G := ((Up.refl H0).cons _).trans hU
   obtain ⟨p,p0,p5,q1,q2,-⟩ := (hv.up hU0).at h
   obtain ⟨v1,G1,a1,a2,a3⟩ := Out7.appB (H := (.var (Qd r).cells :: H0 : Qa)) (b := H0.length) (by simp) ho hU [l[i]] (by simp; omega)
   have k := Qlg hv hl hw (r := r) (l.length - (i + 1)) (i + 1) rfl (by omega) (pre ++ [l[i]]) v1 G1 (by simp; omega) a2 a3
   have e : pre ++ [l[i]] ++ l.drop (i + 1) = pre ++ l.drop i := by rw [hd]; simp
   rw [e] at k
   simp only [Qw] at a1
   rw [Ab]
   simp only [Qah,Qag,q1,q2,lt,a1]
   rw [E9]
   simp only [Qah,Qdx,w1]
   exact k
  by_cases he : txt l[i] = txt r
  ·have ep : Q3 r (l.drop i) = l.drop i := by rw [hd,Q3,if_pos he]
   rw [ep]
   have j3 := follow pre o G (by omega) ho hU
   rw [Bj]
   simp only [Qah,Qab,Qbd,Qfu,Qef,Qej,decide_true,Bool.not_false,Qj,(hv.up hU0).len,h',q1,q2,t1,he]
   rw [LC]
   cases hb : (!(Op.bytesLess (txt r) (txt r) || txt r == txt r)) <;> simp only [Qah,Qbc,Qcf,Qfm,Qfq,Bool.not_true,Bool.or_true,beq_self_eq_true,Qj,Eh,hb,j3]
  ·by_cases hb : Op.bytesLess (txt r) (txt l[i]) = true
   ·have ep : Q3 r (l.drop i) = r :: l.drop i := by rw [hd,Q3,if_neg he,if_pos hb]
    rw [ep]
    obtain ⟨v1,G1,a1,a2,a3⟩ := Out7.appB (H := (.var (Qd r).cells :: H0 : Qa)) (b := H0.length) (by simp) ho hU [r] (by simp; omega)
    have j3 := follow (pre ++ [r]) v1 G1 (by simp; omega) a2 a3
    have e : pre ++ [r] ++ l.drop i = pre ++ r :: l.drop i := by simp
    rw [e] at j3
    simp only [Qw] at a1
    rw [Bj]
    simp only [Qah,Qab,Qbd,Qbc,Qfu,Qef,Qej,decide_true,decide_false,Bool.not_false,Qj,(hv.up hU0).len,h',q1,q2,t1,he]
    rw [LC]
    simp only [Qah,Qag,Qbd,Qci,Qfm,Qfr,Qfu,Qcz,Qhi,Qbg,Qbf,Qbo,Bool.not_false,List.drop_zero,Qj,Nat.le_refl,Eh,QfA he,hb,hr0,Zx,lr,a1,j3]
   ·have ep : Q3 r (l.drop i) = l[i] :: Q3 r (l.drop (i + 1)) := by rw [hd,Q3,if_neg he,if_neg hb]
    rw [ep]
    obtain ⟨v1,G1,a1,a2,a3⟩ := Out7.appB (H := (.var (Qd r).cells :: H0 : Qa)) (b := H0.length) (by simp) ho hU [l[i]] (by simp; omega)
    have k := ih (i + 1) (by omega) (by omega) (pre ++ [l[i]]) v1 G1 (by simp; omega) a2 a3
    have e : pre ++ [l[i]] ++ Q3 r (l.drop (i + 1)) = pre ++ l[i] :: Q3 r (l.drop (i + 1)) := by simp
    rw [e] at k
    have hb' : Op.bytesLess (txt r) (txt l[i]) = false := by simpa using hb
    simp only [Qw] at a1
    rw [Bj]
    simp only [Qah,Qab,Qbd,Qbc,Qfu,Qef,Qej,decide_true,decide_false,Bool.not_false,Qj,(hv.up hU0).len,h',q1,q2,t1,he]
    rw [LC]
    simp only [Qah,Qbc,Qcf,Qfm,Qfq,Qj,Eh,QfA he,hb']
    rw [Ab]
    simp only [Qah,Qag,q1,q2,lt,a1]
    rw [E9]
    simp only [Qah,Qdx,w1]
    exact k
theorem Qpf {H : Qa} {v : V} {l : List X} (hv : Sl H v l) (hl : l.length ≤ 900000000000) (hw : ∀ z ∈ l,Wf z) {r : X} (hr : Wf r) : E E6 [v,Qd r] H = some (.ret (.vs (Qw (Q3 r l))),H) := by
 have t1 := fun H => FA 900000000000 r hr.1 (Nat.le_refl _) hr.2 H
 have k := QnF hv hl hw (r := r) l.length 0 rfl (Nat.zero_le _) [] .nils (.var (Qd r).cells :: H) rfl .nils (Up.refl _)
 simp only [Qam,List.drop_zero,List.nil_append] at k
 rw [QjB,QiO]
 simp only [Qah,Qag,Qab,Qcz,Qcj,Qfv,Qhi,Qbg,Qbm,Qbf,Qbo,List.drop_zero,Qj,Nat.le_refl,Zx,t1,k]
theorem Qj0 (r : X) (l : List X) : (Q3 r l).length ≤ l.length + 1 := by
 induction l with
 | nil => simp [Q3]
 | cons y l ih =>
  unfold Q3
  split
  ·simp
  ·split <;> simp [ih]
theorem Qi0 (L : List X) (kind none : Int) : ofV (.vs (Qw L)) L kind none = Qd (ofL L kind none) := by
 match L with
 | [] => rfl
 | [x] => rfl
 | x :: y :: L => rfl
inductive Od (O : Nat) (G : Qa) : V → List X → Prop where
 | vs (l : List X) : Od O G (.vs (Qw l)) l
 | out (v : V) (l : List X) (h : Out7 O G v l) : Od O G v l
theorem Od.sl {O : Nat} {G : Qa} {v : V} {l : List X} (h : Od O G v l) : Sl G v l := by
 cases h with
 | vs => exact .vs _
 | out v l h => exact h.sl
theorem Qle {H G : Qa} (hU : Up H G) (hH : Qh G H.length = some (.var zX)) {v : V} {l : List X} (h : Od (H.length + 1) G v l) (kind none : Int) :
  ∃ G',Qs H.length 6 G (.ptr H.length 0 0) (ofV v l kind none) = some (.tup [],G') ∧ Qc true 6 G' (.ptr H.length 0 0) = some (ofV v l kind none) ∧ rt false H.length (ofV v l kind none) G' = some (.ret (Qd (ofL l kind none)),H) := by
 cases h with
 | out v l h => exact T5 hU hH h kind none
 | vs =>
  rw [Qi0]
  have st := Y6 (H := H) (G := G) (t := H.length) (Nat.le_refl _) (cs := zX) rfl hH (x := Qd (ofL l kind none)) (by simp) (by simp)
  have hs : Qh (Qn G H.length (.var (Qd (ofL l kind none)).cells)) H.length = some (.var (Qd (ofL l kind none)).cells) := Qcl (Q4 hH)
  refine ⟨_,st,by rw [Qj,hs,Qcz,List.drop_zero,Zx],?_⟩
  rw [Qbl,(hU.set (Nat.le_refl _) _).trunc]
theorem Qhr {H G : Qa} (hU : Up H G) (hH : Qh G H.length = some (.var zX)) {m : List X} (hm : m.length ≤ 900000000000) (hw : ∀ z ∈ m,Wf z) : ∀ (k i : Nat) (o : V) (L : List X),m.length - i = k → i ≤ m.length → L.length ≤ i + 1 → (∀ z ∈ L,Wf z) → Od (H.length + 1) G o L →
  Nr H.length (.ptr H.length 0 0) (.vs (Qw m)) o (.int .i64 (i : Int)) G = some (.ret (Qd (ofL ((Zy (m.drop i)).foldl (fun a r => Q3 r a) L) 4 0)),H) := by
 intro k
 induction k with
 | zero =>
  intro i o L hk hi hL hwL ho
  have h' : ¬ (i : Int) < (m.length : Int) := by omega
  rw [List.drop_of_length_le (by omega),AS]
  have hl := ho.sl.len
  obtain ⟨G',s1,s2,s3⟩ := Qle hU hH ho 4 0
  rw [show (Zy []).foldl (fun a r => Q3 r a) L = L from rfl]
  by_cases h0 : L = []
  ·subst h0
   have b := bX0
   have st := Y6 (H := H) (G := G) (t := H.length) (Nat.le_refl _) (cs := zX) rfl hH (x := .agg zX) rfl rfl
   have hs : Qh (Qn G H.length (.var zX)) H.length = some (.var zX) := Qcl (Q4 hH)
   have hT := (hU.set (i := H.length) (Nat.le_refl _) (.var zX)).trunc
   simp only [List.length_nil,Qam] at hl
   simp only [Qan] at st
   simp only [Qah,Qag,Qbd,Qbc,Qfm,Qfc,Qeb,Qef,Qcz,Qdi,Qdt,Qde,Qdd,Qdc,Qhi,Qgb,Qga,Qbe,Qbx,Qca,Qbt,Qdb,Qda,Qbp,decide_true,decide_false,if_true,List.drop_zero,List.length_cons,List.length_nil,Nat.zero_add,Option.bind_some,Option.map_some,Nat.reduceAdd,Qj,Nat.le_refl,Nat.zero_le,Nat.max_self,List.take_zero,List.take_succ_cons,h',hl,b,st,hs,hT]
   rfl
  ·obtain ⟨n,hn⟩ : ∃ n : Int,n = (L.length : Int) := ⟨_,rfl⟩
   have hn0 : ¬ n = 0 := by have := List.length_pos_iff.2 h0; omega
   rw [← hn] at hl
   have sm := QcO ho.sl h0 4 0
   simp only [Qah,Qag,Qab,Qbc,Qfm,Qfc,Qeb,Qef,Qen,Qbp,decide_false,h',hl,hn0,sm,s1,s2,s3]
 | succ k ih =>
  intro i o L hk hi hL hwL ho
  have h : i < m.length := by omega
  have h' : (i : Int) < (m.length : Int) := by omega
  have w1 := YP (a := i) (by omega)
  obtain ⟨p,p0,p5,q1,q2,q3,q4,-⟩ := (Sl.vs (H := G) m).at h
  have hx := hw m[i] (List.getElem_mem h)
  have hd : m.drop i = m[i] :: m.drop (i + 1) := List.drop_eq_getElem_cons h
  have j5 : ∀ o,Gh H.length (.ptr H.length 0 0) (.vs (Qw m)) o (.int .i64 (i : Int)) G = Nr H.length (.ptr H.length 0 0) (.vs (Qw m)) o (.int .i64 ((i + 1 : Nat) : Int)) G := fun o => by
   rw [Qly]; simp only [Qah,Qdx,w1]
  by_cases hk2 : (!decide (m[i].k = 0) && !decide (m[i].k = 2)) = true
  ·have eo : Zy (m.drop i) = m[i] :: Zy (m.drop (i + 1)) := by rw [hd]; unfold Zy; rw [List.filter_cons,if_pos hk2]
   rw [eo,List.foldl_cons]
   have pt := Qpf ho.sl (by omega) hwL hx
   have k2 := ih (i + 1) (.vs (Qw (Q3 m[i] L))) (Q3 m[i] L) (by omega) (by omega) (by have := Qj0 m[i] L; omega) (fun z hz => by
    rcases put_mem m[i] L z hz with rfl | hz
    ·exact hx
    ·exact hwL z hz) (.vs _)
   rw [AS]
   simp only [Bool.and_eq_true,Bool.not_eq_true',decide_eq_false_iff_not] at hk2
   obtain ⟨n1,n2⟩ := hk2
   simp only [Qah,Qab,Qbd,Qci,Qfm,Qfr,Qfc,Qeh,Qef,Qen,Qbp,decide_true,decide_false,Bool.not_false,Qj,Qz,h',q1,q2,q3,q4,n1,n2,pt,j5,k2]
  ·have eo : Zy (m.drop i) = Zy (m.drop (i + 1)) := by rw [hd]; unfold Zy; rw [List.filter_cons,if_neg hk2]
   rw [eo]
   have k2 := ih (i + 1) o L (by omega) (by omega) (by omega) hwL ho
   rw [AS]
   by_cases n1 : m[i].k = 0
   ·simp only [Qah,Qbd,Qbc,Qcf,Qfm,Qfq,Qfc,Qeh,Qef,Qen,Qbp,decide_true,Bool.not_true,Qj,Qz,h',q1,q3,q4,n1,j5,k2]
   ·have n2 : m[i].k = 2 := by simpa [n1] using hk2
    rw [n2] at q4
    have n20 : ¬ (2 : Int) = 0 := by decide
    simp only [Qah,Qbd,Qbc,Qci,Qfm,Qfr,Qfc,Qeh,Qef,Qen,Qbp,decide_true,decide_false,Bool.not_true,Bool.not_false,Qj,Qz,h',q1,q3,q4,n20,j5,k2]
theorem Qp1 {G : Qa} {m : List X} {j : Nat} (hj : j < m.length) : ∃ p p0 p1,Qx 6 (.vs (Qw m)) (.int .i64 (j : Int)) = some p ∧ Qq p 0 = some p0 ∧ Qc false 1 G p0 = some (.int .i64 m[j].k) ∧ Qq p 1 = some p1 ∧ Qc true 4 G p1 = some (.agg m[j].s.cs) := by
 refine ⟨_,_,_,Y8 hj .i64,M1 _ 0 (by simp),?_,M1 _ 1 (by simp),?_⟩
 ·obtain ⟨k,s,ks,e⟩ : ∃ k s ks,m[j] = .mk k s ks := by cases m[j] with | mk k s ks => exact ⟨k,s,ks,rfl⟩
  rw [e]
  simp [QE,X.k]
 ·obtain ⟨k,s,ks,e⟩ : ∃ k s ks,m[j] = .mk k s ks := by cases m[j] with | mk k s ks => exact ⟨k,s,ks,rfl⟩
  rw [e]
  simp [QE,X.s,ZJ]
theorem QqI {H : Qa} {m : List X} (hm : m.length ≤ 900000000000) (hw : ∀ z ∈ m,Wf z) : ∀ (k i : Nat) (s : S4),m.length - i = k → i ≤ m.length → s.sm → Yn s (m.drop i) = Zh m →
  Mw H.length (.ptr H.length 0 0) (.vs (Qw m)) .nils (.ptr (H.length + 1) 0 0) (.int .i64 (i : Int)) (.var s.cs :: .var zX :: H) = some (.ret (Qd (ofL ((Zy m).foldl (fun a r => Q3 r a) (Zp (Zh m))) 4 0)),H) := by
 intro k
 induction k with
 | zero =>
  intro i s hk hi hs hj
  have h' : ¬ (i : Int) < (m.length : Int) := by omega
  rw [List.drop_of_length_le (by omega)] at hj
  have hj : s = Zh m := hj
  have hU : Up H (.var s.cs :: .var zX :: H) := ((Up.refl H).cons _).cons _
  have c := fun G => EJ hs.1 G
  have hz := S4.zero_bytes hs.1
  rw [Av]
  by_cases h0 : s = S4.zero
  ·have e : ¬ (0 : Int) < (s.bytes.length : Int) := by rw [hz.1 h0]; simp
   have k4 := Qhr (H := H) (G := .var s.cs :: .var zX :: H) hU (by simp) hm hw m.length 0 .nils [] rfl (Nat.zero_le _) (by simp) (by simp) (.out _ _ .nils)
   have hb : Zp (Zh m) = [] := by rw [← hj,h0]; rfl
   rw [hb]
   simp only [Qam,List.drop_zero] at k4
   simp only [Qah,Qab,Qbc,Qfc,Qef,Qed,Qcz,Qcj,Qhi,Qbp,decide_false,List.drop_zero,List.length_cons,List.length_nil,Nat.zero_add,Nat.reduceAdd,Qj,Qz,Nat.le_refl,List.take_zero,List.take_succ_cons,h',c,e]
   rw [XE]
   exact k4
  ·have e : (0 : Int) < (s.bytes.length : Int) := by
    have : s.bytes ≠ [] := fun x => h0 (hz.2 x)
    have := List.length_pos_iff.2 this
    omega
   have hb : Zp (Zh m) = [.mk 2 s []] := by rw [← hj]; unfold Zp; rw [if_neg h0]
   have o := fun G => Qp5 hs.1 G
   have eo : ofX s = .mk 2 s [] := by unfold ofX; rw [if_neg h0]
   rw [eo] at o
   have ap := fun G : Qa => Z0.append_nil (O := H.length) (by_ := 64) (H := G) (a := X.mk 2 s []) (by decide)
   have hr : Qh (.row 0 6 true (Qy [X.mk 2 s []]) :: .var s.cs :: .var zX :: H) (H.length + 2) = some (.row 0 6 true (Qy [X.mk 2 s []])) := by simp
   have hHr : Qh (.row 0 6 true (Qy [X.mk 2 s []]) :: .var s.cs :: .var zX :: H) H.length = some (.var zX) := by
    rw [Qck (by simp only [List.length_cons]; omega),Qck (by simp only [List.length_cons]; omega),Qcm]
   have k4 := Qhr (H := H) (G := .row 0 6 true (Qy [X.mk 2 s []]) :: .var s.cs :: .var zX :: H) (hU.cons _) hHr hm hw m.length 0 (.rs (H.length + 2) 0 6 0 1) [X.mk 2 s []] rfl (Nat.zero_le _) (by simp) (fun z hz2 => by
    obtain rfl := List.mem_singleton.1 hz2
    exact ⟨by simp [X.size,Qk],hs,trivial⟩) (.out _ _ (.rs (H.length + 2) 0 [X.mk 2 s []] (by omega) hr))
   rw [hb]
   simp only [Qam,List.drop_zero] at k4
   simp only [Qah,Qag,Qab,Qbd,Qbc,Qfc,Qef,Qed,Qcz,Qcj,Qhi,Qbp,Qfe,decide_true,decide_false,List.drop_zero,List.length_cons,List.length_nil,Nat.zero_add,Nat.reduceAdd,Qj,Qz,Nat.le_refl,List.take_zero,List.take_succ_cons,h',c,e,o,ap]
   rw [XE]
   exact k4
 | succ k ih =>
  intro i s hk hi hs hj
  have h : i < m.length := by omega
  have h' : (i : Int) < (m.length : Int) := by omega
  have w1 := YP (a := i) (by omega)
  obtain ⟨p,p0,p1,q1,q3,q4,q5,q6⟩ := Qp1 (G := .var s.cs :: .var zX :: H) h
  have hx := hw m[i] (List.getElem_mem h)
  have hd : m.drop i = m[i] :: m.drop (i + 1) := List.drop_eq_getElem_cons h
  have j2 : ∀ G,GC H.length (.ptr H.length 0 0) (.vs (Qw m)) .nils (.ptr (H.length + 1) 0 0) (.int .i64 (i : Int)) G = Mw H.length (.ptr H.length 0 0) (.vs (Qw m)) .nils (.ptr (H.length + 1) 0 0) (.int .i64 ((i + 1 : Nat) : Int)) G := fun G => by
   rw [QoC]; simp only [Qah,Qdx,w1]
  rw [hd] at hj
  unfold Yn at hj
  rw [List.foldl_cons] at hj
  by_cases hk2 : m[i].k = 2
  ·rw [if_pos hk2] at hj
   have jn := fun G => QnU hs.1 (X.ok_set hx.2) G
   have k2 := ih (i + 1) (s.join m[i].s) (by omega) (by omega) (S4.join_sm hs (X.ok_sm hx.2)) hj
   have hsp : splice s.cs 0 (s.join m[i].s).cs = (s.join m[i].s).cs := rfl
   rw [Av]
   simp only [Qah,Qag,Qab,Qbd,Qfc,Qeb,Qef,Qcz,Qan,Qgo,Qgn,Qgs,Qdi,Qde,Qdd,Qdc,Qhh,Qcj,Qcn,Qhi,Qbp,decide_true,if_true,List.drop_zero,List.length_cons,List.length_nil,Nat.zero_add,Bool.and_true,Nat.reduceAdd,Qj,Qz,Qu,Nat.le_refl,Nat.zero_le,or_true,and_self,Nat.max_self,List.take_zero,List.take_succ_cons,h',q1,q3,q4,hk2,q5,q6,jn,hsp,j2,k2]
  ·rw [if_neg hk2] at hj
   have k2 := ih (i + 1) s (by omega) (by omega) hs hj
   rw [Av]
   simp only [Qah,Qbd,Qbc,Qfc,Qeb,Qef,Qcz,Qcj,Qhi,Qbp,decide_true,decide_false,List.drop_zero,List.length_cons,List.length_nil,Nat.zero_add,Nat.reduceAdd,Qj,Qz,Nat.le_refl,List.take_zero,List.take_succ_cons,h',q1,q3,q4,hk2,j2,k2]
theorem G9 {H : Qa} {v : V} {l : List X} (hv : Sl H v l) (hn : Qk l ≤ 900000000000) (hok : ∀ x ∈ l,x.ok) : E V9 [v] H = some (.ret (Qd (Ze l)),H) := by
 have hfl := PM (k := 4) l
 have hfs := Uy (k := 4) l
 have hll := Yq l
 have hwf := Wf.of (l := flatK 4 l) (by omega) (Pg (k := 4) hok)
 have f := QfX (k := 4) (hv.up ((Up.refl H).cons (.var zX))) (by omega) (by omega)
 have k := QqI (H := H) (m := flatK 4 l) (by omega) hwf (flatK 4 l).length 0 S4.zero rfl (Nat.zero_le _) S4.zero_sm rfl
 have hs0 : S4.zero.cs = [.int .u64 0,.int .u64 0,.int .u64 0,.int .u64 0] := rfl
 rw [hs0] at k
 simp only [Qam] at k
 rw [Qm9,QiN]
 simp only [Qag,Qab,Qan,Qgo,Qgn,Qgs,Qgy,Qfv,List.length_cons,Bool.and_true,f,k,Ze]
end Go.Proofs.YtdnmpaielmfiiaaDoor
end
