/- Sa: a part of the proof that each law of this seat answers true at every input. No condition. -/
import Derived.Test.YtdnmpaielmfiiaaDoorTa
import Derived.Test.YtdnmpaielmfiiaaDoorXa
set_option linter.unusedVariables false
set_option linter.unusedSimpArgs false
set_option maxRecDepth 20000
section
namespace Go.Proofs.YtdnmpaielmfiiaaDoor
open Go Go.Ev Go.X7 Go.Srt
set_option maxRecDepth 20000
abbrev ltX : X → X → Prop := lt txt
abbrev FC : V := .fn Uw []
def Wf (x : X) : Prop := x.size ≤ 900000000000 ∧ x.ok
theorem Qpc (a b : List UInt8) (H : Qa) : E QeL [.str a,.str b] H = some (.ret (.int .i64 (Lib.compareBytes a b)),H) := by
 rw [show E = EV Tryd.prog YW D from rfl,Kx (g := iRd Lx) rfl]
 rfl
theorem Ga {x y : X} (hx : Wf x) (hy : Wf y) (H : Qa) : E Uw [Qd x,Qd y] H = some (.ret (.int .i64 (Lib.compareBytes (txt x) (txt y))),H) := by
 rw [Qk4,QpW]
 have t1 := fun H => PW hx.1 hx.2 H
 have t2 := fun H => PW hy.1 hy.2 H
 have c := fun H => Qpc (txt x) (txt y) H
 simp only [Qah,Qag,Qab,Qhd,Qgm,Qcx,Qcz,Qge,Qcr,Qck,Qcj,Qfv,Qhi,Qbg,Qbm,Qbf,Qbo,List.drop_zero,List.length_cons,Qj,Qu,Nat.le_refl,Nat.lt_add_one,Zx,t1,t2,c]
theorem QeF {x y : X} (hx : Wf x) (hy : Wf y) (H : Qa) : E Bv [Qd x,Qd y] H = some (.ret (.bool (decide (txt x = txt y))),H) := by
 rw [Qjg,QqH]
 have t1 := fun H => PW hx.1 hx.2 H
 have t2 := fun H => PW hy.1 hy.2 H
 simp only [Qah,Qag,Qab,Qhd,Qgm,Qej,Qcx,Qcz,Qgc,Qcr,Qck,Qcj,Qfv,Qhi,Qbg,Qbm,Qbf,Qbo,List.drop_zero,List.length_cons,Qj,Qu,Nat.le_refl,Nat.lt_add_one,Zx,t1,t2]
section
variable {H : Qa} {i ver N : Nat} {rest : List V}
abbrev RH (H : Qa) (i ver : Nat) (rest : List V) (l : List X) : Qa := Qn H i (Q9 ver l rest)
theorem YI {j : Nat} (h : j < N) : Qx 6 (.rs i ver 6 0 N) (.int .i64 (j : Int)) = some (.ptr i ver (j * 6)) := by
 have := V5 (i := i) (ver := ver) (sz := 6) (off := 0) (n := N) (k := .i64) h
 rwa [Nat.zero_add] at this
theorem YE (hi : i < H.length) {l P Q : List X} {x : X} (hl : l = P ++ x :: Q) {j : Nat} (hj : j = P.length) : Qc true 6 (RH H i ver rest l) (.ptr i ver (j * 6)) = some (Qd x) := by
 subst hl hj
 have := take_at (l := P ++ x :: Q) (j := P.length) (by simp) rest
 rw [Qj,Qcl hi,Qcy,this]
 simp
theorem KW (hi : i < H.length) {O : Nat} {l P Q : List X} {x : X} (hl : l = P ++ x :: Q) {j : Nat} (hj : j = P.length) (y : X) : Qs O 6 (RH H i ver rest l) (.ptr i ver (j * 6)) (Qd y) = some (.tup [],RH H i ver rest (P ++ y :: Q)) := by
 subst hl hj
 have hs := Qb5 (l := P ++ x :: Q) (j := P.length) (by simp) rest y
 have hfit : fits O i 0 = true := by simp [fits]
 have hle : P.length * 6 + 6 ≤ (Qy (P ++ x :: Q) ++ rest).length := by rw [List.length_append,Z8,List.length_append,List.length_cons]; omega
 have e : (P ++ x :: Q).set P.length y = P ++ y :: Q := by simp
 rw [e] at hs
 rw [Qz,Qcl hi,Qhg]
 simp only [Qbg,Qbm,Qbj,hfit,and_self,if_true,hle,hs,Qcp,true_and]
 simp
end
end Go.Proofs.YtdnmpaielmfiiaaDoor
end
section
namespace Go.Proofs.YtdnmpaielmfiiaaDoor
open Go Go.Ev Go.X7 Go.Srt
set_option maxRecDepth 20000
theorem YP {a : Nat} (h : a ≤ 100000000000000) : IntKind.i64.wrap ((a : Int) + 1) = ((a + 1 : Nat) : Int) := by rw [wrap_i64 (by omega) (by omega)]; omega
theorem CL {a : Nat} (h : a ≤ 100000000000000) : IntKind.i64.wrap (((a + 1 : Nat) : Int) - 1) = (a : Int) := by rw [wrap_i64 (by omega) (by omega)]; omega
theorem QiQ {H : Qa} {i ver N O : Nat} {rest : List V} (hi : i < H.length) (hN : N ≤ 1000000000000) {L0 T : List X} {x : X} {b at8 : Nat} (hx : Wf x) : ∀ (n : Nat) (S1 S2 : List X),S1.length = n → Sd txt (S1 ++ S2) → (∀ z ∈ S2,ltX x z) → (∀ z ∈ S1,Wf z) → (L0 ++ S1 ++ x :: S2 ++ T).length = N →
  ∃ M,Sd txt M ∧ St txt (S1 ++ x :: S2) M ∧
  Fz O (.rs i ver 6 0 N) (.int .i64 L0.length) (.int .i64 b) FC (.int .i64 at8) (.int .i64 ((L0.length + S1.length : Nat) : Int)) (RH H i ver rest (L0 ++ S1 ++ x :: S2 ++ T)) =
  RZ O (.rs i ver 6 0 N) (.int .i64 L0.length) (.int .i64 b) FC (.int .i64 (IntKind.i64.wrap ((at8 : Int) + 1))) (RH H i ver rest (L0 ++ M ++ T)) := by
 intro n
 induction n with
 | zero =>
  intro S1 S2 hn hs h2 hw hl
  have : S1 = [] := List.length_eq_zero_iff.1 hn
  subst this
  refine ⟨x :: S2,?_,St.refl _,?_⟩
  ·exact Sd.insert (S := []) hs (by simp) h2
  ·have h0 : ¬ (L0.length : Int) < ((L0.length + 0 : Nat) : Int) := by omega
   rw [E4]
   simp only [Nat.add_zero] at h0
   simp only [Qah,Qab,Qbc,Qcf,Qfm,Qfq,Qdx,Qel,Qed,decide_false,List.length_nil,Nat.add_zero,List.append_nil,h0]
 | succ n ih =>
  intro S1 S2 hn hs h2 hw hl
  rcases List.eq_nil_or_concat S1 with rfl | ⟨S,y,rfl⟩
  ·simp at hn
  rw [List.concat_eq_append] at *
  have hSn : S.length = n := by simp at hn; omega
  have hlen : (L0.length + (S ++ [y]).length : Nat) = (L0.length + S.length) + 1 := by simp; omega
  have hl2 : L0.length + S.length + 1 < N := by rw [← hl]; simp; omega
  have w1 := CL (a := L0.length + S.length) (by omega)
  have hgt : (L0.length : Int) < ((L0.length + S.length + 1 : Nat) : Int) := by omega
  have hy : Wf y := hw y (by simp)
  have i1 := YI (i := i) (ver := ver) (N := N) (j := L0.length + S.length + 1) hl2
  have i0 := YI (i := i) (ver := ver) (N := N) (j := L0.length + S.length) (by omega)
  have l1 := YE (ver := ver) (rest := rest) hi (l := L0 ++ (S ++ [y]) ++ x :: S2 ++ T) (P := L0 ++ S ++ [y]) (Q := S2 ++ T) (x := x) (by simp) (j := L0.length + S.length + 1) (by simp [Nat.add_assoc])
  have l0 := YE (ver := ver) (rest := rest) hi (l := L0 ++ (S ++ [y]) ++ x :: S2 ++ T) (P := L0 ++ S) (Q := x :: S2 ++ T) (x := y) (by simp) (j := L0.length + S.length) (by simp)
  have cm := fun G => Ga hx hy G
  rw [hlen]
  by_cases hlt : ltX x y
  ·obtain ⟨M,m1,m2,m3⟩ := ih S (y :: S2) hSn (by simpa using hs) (fun z hz => by
    rcases List.mem_cons.1 hz with rfl | hz
    ·exact hlt
    ·exact h2 z hz) (fun z hz => hw z (by simp [hz])) (by rw [← hl]; first | (simp; done) | (simp; omega))
   refine ⟨M,m1,St.trans ?_ m2,?_⟩
   ·have : St txt ([y] ++ [x]) ([x] ++ [y]) := St.swapL (by simp; exact hlt)
    have := (St.refl (key := txt) S).append (this.append (St.refl S2))
    simpa using this
   ·have hc : Lib.compareBytes (txt x) (txt y) < 0 := hlt
    have s1 := KW (O := O) (ver := ver) (rest := rest) hi (l := L0 ++ (S ++ [y]) ++ x :: S2 ++ T) (P := L0 ++ S ++ [y]) (Q := S2 ++ T) (x := x) (by simp) (j := L0.length + S.length + 1) (by simp [Nat.add_assoc]) y
    have s0 := KW (O := O) (ver := ver) (rest := rest) hi (l := L0 ++ S ++ [y] ++ y :: (S2 ++ T)) (P := L0 ++ S) (Q := y :: (S2 ++ T)) (x := y) (by simp) (j := L0.length + S.length) (by simp) x
    have e : L0 ++ S ++ x :: y :: (S2 ++ T) = L0 ++ S ++ x :: y :: S2 ++ T := by simp
    rw [e] at s0
    rw [E4]
    simp only [Qah,Qag,Qab,Qbd,Qci,Qfm,Qfr,Qep,Qdx,Qel,Qef,Qed,decide_true,List.append_nil,hgt,i1,w1,i0,l1,l0,cm,hc,s1,s0]
    exact m3
  ·have hc : ¬ Lib.compareBytes (txt x) (txt y) < 0 := hlt
   refine ⟨S ++ [y] ++ x :: S2,?_,St.refl _,?_⟩
   ·refine Sd.insert hs ?_ h2
    exact Sd.last (Sd.sub hs).1 hlt
   ·rw [E4]
    simp only [Qah,Qab,Qbc,Qci,Qfm,Qfr,Qep,Qdx,Qel,Qef,Qed,decide_true,decide_false,List.append_nil,hgt,i1,w1,i0,l1,l0,cm,hc]
    congr 2
    simp
theorem QiG {H : Qa} {i ver N : Nat} {rest : List V} (hi : i < H.length) (hN : N ≤ 1000000000000) {L0 L1 : List X} : ∀ (n : Nat) (S T : List X),T.length = n → Sd txt S → S ≠ [] → (∀ z ∈ S ++ T,Wf z) → (L0 ++ (S ++ T) ++ L1).length = N →
  ∃ M,Sd txt M ∧ St txt (S ++ T) M ∧
  RZ H.length (.rs i ver 6 0 N) (.int .i64 L0.length) (.int .i64 ((L0.length + (S ++ T).length : Nat) : Int)) FC (.int .i64 ((L0.length + S.length : Nat) : Int)) (RH H i ver rest (L0 ++ (S ++ T) ++ L1)) = some (.ret (.tup []),RH H i ver rest (L0 ++ M ++ L1)) := by
 intro n
 induction n with
 | zero =>
  intro S T hn hs h0 hw hl
  have : T = [] := List.length_eq_zero_iff.1 hn
  subst this
  rw [List.append_nil] at *
  refine ⟨S,hs,St.refl _,?_⟩
  rw [Qrf]
  simp only [Qah,Qbc,Qef,Qgk,Qcs,decide_false,Int.lt_irrefl]
 | succ n ih =>
  intro S T hn hs h0 hw hl
  cases T with
  | nil => simp at hn
  | cons x T =>
   have hlt : ((L0.length + S.length : Nat) : Int) < ((L0.length + (S ++ x :: T).length : Nat) : Int) := by simp; omega
   obtain ⟨M,m1,m2,m3⟩ := QiQ (O := H.length) (ver := ver) (rest := rest) hi hN (L0 := L0) (T := T ++ L1) (x := x) (b := L0.length + (S ++ x :: T).length) (at8 := L0.length + S.length) (hw x (by simp)) S.length S [] rfl (by simpa using hs) (by simp) (fun z hz => hw z (by simp [hz])) (by rw [← hl]; first | (simp; done) | (simp; omega))
   have hMl : M.length = S.length + 1 := by rw [m2.1]; simp
   have hw2 : ∀ z ∈ M ++ T,Wf z := fun z hz => by
    rcases List.mem_append.1 hz with hz | hz
    ·have := (m2.mem z).1 hz
     exact hw z (by simp at this ⊢; rcases this with h | h <;> simp [h])
    ·exact hw z (by simp [hz])
   obtain ⟨M',k1,k2,k3⟩ := ih M T (by simpa using hn) m1 (by rintro rfl; simp at hMl) hw2 (by rw [← hl]; first | (simp [hMl]; done) | (simp [hMl]; omega))
   refine ⟨M',k1,St.trans ?_ k2,?_⟩
   ·have := m2.append (St.refl (key := txt) T)
    simpa using this
   ·have hNl : L0.length + (S.length + (T.length + 1)) + L1.length = N := by rw [← hl]; simp; omega
    have w1 := YP (a := L0.length + S.length) (by omega)
    rw [Qrf]
    simp only [Qah,Qbd,Qef,Qgk,Qcs,decide_true,hlt]
    have e : L0 ++ (S ++ x :: T) ++ L1 = L0 ++ S ++ x :: [] ++ (T ++ L1) := by simp
    rw [e,m3,w1]
    have e2 : L0 ++ (M ++ T) ++ L1 = L0 ++ M ++ (T ++ L1) := by simp
    have e3 : L0.length + (S ++ x :: T).length = L0.length + (M ++ T).length := by simp [hMl]; omega
    have e4 : L0.length + S.length + 1 = L0.length + M.length := by rw [hMl]; omega
    rw [e2] at k3
    rw [e3,e4]
    exact k3
theorem Cn {H : Qa} {i ver N : Nat} {rest : List V} (hi : i < H.length) (hN : N ≤ 1000000000000) {L0 M L1 : List X} (hw : ∀ z ∈ M,Wf z) (hl : (L0 ++ M ++ L1).length = N) :
  ∃ M',Sd txt M' ∧ St txt M M' ∧ E Nh [.rs i ver 6 0 N,.int .i64 L0.length,.int .i64 ((L0.length + M.length : Nat) : Int),FC] (RH H i ver rest (L0 ++ M ++ L1)) = some (.ret (.tup []),RH H i ver rest (L0 ++ M' ++ L1)) := by
 have hN1 : L0.length + M.length + L1.length = N := by rw [← hl]; simp [Nat.add_assoc]
 have w1 := YP (a := L0.length) (by omega)
 have hb : (RH H i ver rest (L0 ++ M ++ L1)).length = H.length := by simp
 cases M with
 | nil =>
  refine ⟨[],List.Pairwise.nil,St.refl _,?_⟩
  rw [AP,AT,hb]
  simp only [Qah,Qdx,List.length_nil,Nat.add_zero,List.append_nil,w1]
  rw [Qrf]
  have h' : ¬ ((L0.length + 1 : Nat) : Int) < (L0.length : Int) := by omega
  simp only [Qah,Qbc,Qef,Qgk,Qcs,decide_false,h']
 | cons x T =>
  obtain ⟨M',k1,k2,k3⟩ := QiG (ver := ver) (rest := rest) hi hN (L0 := L0) (L1 := L1) T.length [x] T rfl (by simp) (by simp) hw hl
  refine ⟨M',k1,k2,?_⟩
  rw [AP,AT,hb]
  simp only [Qah,Qdx,List.length_cons,w1]
  exact k3
theorem ZH {a : Int} {b : Nat} (h : a = (b : Int)) (hb : b ≤ 100000000000000) : IntKind.i64.wrap a = (b : Int) := by rw [h,wrap_i64 (by omega) (by omega)]
theorem Qqe {H : Qa} {i ver N : Nat} {rest : List V} (hi : i < H.length) (hN : N ≤ 1000000000000) {P M S : List X} {a b n : Nat} (ha : a = P.length) (hb : b = P.length + n + M.length) : ∀ (X2 X1 Y1 Y2 : List X),X1.length = Y1.length → X2.length = Y2.length → X1.length + X2.length = n →
  (P ++ Y1 ++ X2 ++ M ++ X1 ++ Y2 ++ S).length = N →
  GA H.length (.rs i ver 6 0 N) (.int .i64 (a : Int)) (.int .i64 (b : Int)) (.int .i64 (n : Int)) (.int .i64 (X1.length : Int)) (RH H i ver rest (P ++ Y1 ++ X2 ++ M ++ X1 ++ Y2 ++ S)) = some (.ret (.tup []),RH H i ver rest (P ++ (Y1 ++ Y2) ++ M ++ (X1 ++ X2) ++ S)) := by
 intro X2
 induction X2 with
 | nil =>
  intro X1 Y1 Y2 h1 h2 h3 hl
  have : Y2 = [] := List.length_eq_zero_iff.1 (by rw [← h2]; rfl)
  subst this
  have h' : ¬ (X1.length : Int) < (n : Int) := by simp at h3; omega
  rw [Qho]
  simp only [Qah,Qbc,Qdx,Qef,Qgk,Qcs,decide_false,List.append_nil,h']
 | cons x X2 ih =>
  intro X1 Y1 Y2 h1 h2 h3 hl
  cases Y2 with
  | nil => simp at h2
  | cons y Y2 =>
   have hx2 : X2.length = Y2.length := by simpa using h2
   simp only [List.length_cons] at h3
   have h' : (X1.length : Int) < (n : Int) := by omega
   have hNs : P.length + Y1.length + (X2.length + 1) + M.length + X1.length + (Y2.length + 1) + S.length = N := by rw [← hl]; simp only [List.length_append,List.length_cons]
   have w1 : IntKind.i64.wrap ((a : Int) + (X1.length : Int)) = ((a + X1.length : Nat) : Int) := ZH (by omega) (by omega)
   have w2 : IntKind.i64.wrap ((b : Int) + (X1.length : Int)) = ((b + X1.length : Nat) : Int) := ZH (by omega) (by omega)
   have w3 := YP (a := X1.length) (by omega)
   have i1 := YI (i := i) (ver := ver) (N := N) (j := a + X1.length) (by omega)
   have i2 := YI (i := i) (ver := ver) (N := N) (j := b + X1.length) (by omega)
   have e1 : P ++ Y1 ++ x :: X2 ++ M ++ X1 ++ y :: Y2 ++ S = (P ++ Y1) ++ x :: (X2 ++ M ++ X1 ++ y :: Y2 ++ S) := by simp
   have e2 : P ++ Y1 ++ x :: X2 ++ M ++ X1 ++ y :: Y2 ++ S = (P ++ Y1 ++ x :: X2 ++ M ++ X1) ++ y :: (Y2 ++ S) := by simp
   have l1 := YE (ver := ver) (rest := rest) hi e1 (j := a + X1.length) (by rw [ha,h1]; simp)
   have l2 := YE (ver := ver) (rest := rest) hi e2 (j := b + X1.length) (by rw [hb]; simp only [List.length_append,List.length_cons]; omega)
   have s1 := KW (O := H.length) (ver := ver) (rest := rest) hi e1 (j := a + X1.length) (by rw [ha,h1]; simp) y
   have e3 : (P ++ Y1) ++ y :: (X2 ++ M ++ X1 ++ y :: Y2 ++ S) = (P ++ Y1 ++ y :: X2 ++ M ++ X1) ++ y :: (Y2 ++ S) := by simp
   have s2 := KW (O := H.length) (ver := ver) (rest := rest) hi e3 (j := b + X1.length) (by rw [hb]; simp only [List.length_append,List.length_cons]; omega) x
   have q := ih (X1 ++ [x]) (Y1 ++ [y]) Y2 (by simp [h1]) hx2 (by simp; omega) (by rw [← hl]; simp only [List.length_append,List.length_cons,List.length_nil]; omega)
   have e4 : P ++ Y1 ++ y :: X2 ++ M ++ X1 ++ x :: (Y2 ++ S) = P ++ (Y1 ++ [y]) ++ X2 ++ M ++ (X1 ++ [x]) ++ Y2 ++ S := by simp
   rw [e4] at s2
   rw [Qho]
   simp only [Qah,Qag,Qbd,Qdx,Qef,Qgk,Qcs,decide_true,h',w1,w2,i1,i2,l1,l2,s1,s2,w3]
   have e5 : (X1 ++ [x]).length = X1.length + 1 := by simp
   rw [e5] at q
   rw [q]
   simp
theorem E1 {H : Qa} {i ver N : Nat} {rest : List V} (hi : i < H.length) (hN : N ≤ 1000000000000) {P A M B S : List X} (hAB : A.length = B.length) (hl : (P ++ A ++ M ++ B ++ S).length = N) {a b n : Nat} (ha : a = P.length) (hb : b = P.length + A.length + M.length) (hn : n = A.length) (f : V) :
  E NW [.rs i ver 6 0 N,.int .i64 (a : Int),.int .i64 (b : Int),.int .i64 (n : Int),f] (RH H i ver rest (P ++ A ++ M ++ B ++ S)) = some (.ret (.tup []),RH H i ver rest (P ++ B ++ M ++ A ++ S)) := by
 have hbl : (RH H i ver rest (P ++ A ++ M ++ B ++ S)).length = H.length := by simp
 have q := Qqe (ver := ver) (rest := rest) hi hN (P := P) (M := M) (S := S) (a := a) (b := b) (n := n) ha (by rw [hn]; exact hb) A [] [] B rfl hAB (by simp [hn]) (by rw [← hl]; simp)
 rw [Qmu,QlE,hbl]
 simp only [List.append_nil,List.nil_append,List.length_nil,Qam] at q
 exact q
theorem QoH {H : Qa} {i ver N : Nat} {rest : List V} (hi : i < H.length) (hN : N ≤ 1000000000000) {m : Nat} : ∀ (k : Nat) (P A B S : List X),A.length + B.length ≤ k → A ≠ [] → B ≠ [] → P.length + A.length = m → (P ++ A ++ B ++ S).length = N →
  MW H.length (.rs i ver 6 0 N) (.int .i64 (m : Int)) FC (.int .i64 (A.length : Int)) (.int .i64 (B.length : Int)) (RH H i ver rest (P ++ A ++ B ++ S)) = some (.ret (.tup []),RH H i ver rest (P ++ B ++ A ++ S)) := by
 intro k
 induction k with
 | zero => intro P A B S hk hA; have := List.length_pos_iff.2 hA; omega
 | succ k ih =>
  intro P A B S hk hA hB hm hl
  have hA1 := List.length_pos_iff.2 hA
  have hB1 := List.length_pos_iff.2 hB
  have hNs : P.length + A.length + B.length + S.length = N := by rw [← hl]; simp [Nat.add_assoc]
  have w1 : IntKind.i64.wrap ((m : Int) - (A.length : Int)) = (P.length : Int) := ZH (by omega) (by omega)
  rw [QlG]
  by_cases h1 : A.length = B.length
  ·have hne : (A.length : Int) = (B.length : Int) := by omega
   have q := E1 (ver := ver) (rest := rest) hi hN (P := P) (A := A) (M := []) (B := B) (S := S) h1 (by simpa using hl) (a := P.length) (b := m) (n := A.length) rfl (by simpa using hm.symm) rfl FC
   simp only [List.append_nil] at q
   simp only [Qah,Qbc,Qdx,Qel,Qeh,Qed,decide_true,Bool.not_true,hne,← h1]
   rw [← hne]
   simp only [Qab,Qgk,Qcs,w1,q]
  ·have hne : ¬ (A.length : Int) = (B.length : Int) := by omega
   by_cases h2 : B.length < A.length
   ·have hgt : (B.length : Int) < (A.length : Int) := by omega
    obtain ⟨A1,A2,rfl,hA1l⟩ : ∃ A1 A2,A = A1 ++ A2 ∧ A1.length = B.length := ⟨A.take B.length,A.drop B.length,by simp,by simp; omega⟩
    have hAl : (A1 ++ A2).length = A1.length + A2.length := by simp
    have q := E1 (ver := ver) (rest := rest) hi hN (P := P) (A := A1) (M := A2) (B := B) (S := S) hA1l (by rw [← hl]; simp) (a := P.length) (b := m) (n := B.length) rfl (by omega) hA1l.symm FC
    have e1 : P ++ (A1 ++ A2) ++ B ++ S = P ++ A1 ++ A2 ++ B ++ S := by simp
    have r := ih (P ++ B) A2 A1 S (by omega) (by rintro rfl; simp at h2 hA1l; omega) (by rintro rfl; simp at hA1l; omega) (by simp; omega) (by rw [← hl]; simp; omega)
    have w2 : IntKind.i64.wrap (((A1 ++ A2).length : Int) - (B.length : Int)) = (A2.length : Int) := ZH (by rw [hAl]; omega) (by omega)
    rw [hA1l] at r
    simp only [Qah,Qab,Qbd,Qdx,Qel,Qeh,Qed,Qgk,decide_true,decide_false,Bool.not_false,hne,hgt,w1,e1,q,w2,r]
    simp
   ·have hgt : ¬ (B.length : Int) < (A.length : Int) := by omega
    obtain ⟨B1,B2,rfl,hB2l⟩ : ∃ B1 B2,B = B1 ++ B2 ∧ B2.length = A.length := ⟨B.take (B.length - A.length),B.drop (B.length - A.length),by simp,by simp; omega⟩
    have hBl : (B1 ++ B2).length = B1.length + B2.length := by simp
    have q := E1 (ver := ver) (rest := rest) hi hN (P := P) (A := A) (M := B1) (B := B2) (S := S) hB2l.symm (by rw [← hl]; simp) (a := P.length) (b := P.length + A.length + B1.length) (n := A.length) rfl rfl rfl FC
    have e1 : P ++ A ++ (B1 ++ B2) ++ S = P ++ A ++ B1 ++ B2 ++ S := by simp
    have e2 : P ++ B2 ++ B1 ++ A ++ S = P ++ B2 ++ B1 ++ (A ++ S) := by simp
    have r := ih P B2 B1 (A ++ S) (by omega) (by rintro rfl; simp at hB2l; omega) (by rintro rfl; simp at h1; omega) (by omega) (by rw [← hl]; simp; omega)
    have w2 : IntKind.i64.wrap ((m : Int) + ((B1 ++ B2).length : Int)) = ((m + (B1 ++ B2).length : Nat) : Int) := ZH (by omega) (by omega)
    have w3 : IntKind.i64.wrap (((m + (B1 ++ B2).length : Nat) : Int) - (A.length : Int)) = ((P.length + A.length + B1.length : Nat) : Int) := ZH (by rw [hBl]; omega) (by omega)
    have w4 : IntKind.i64.wrap (((B1 ++ B2).length : Int) - (A.length : Int)) = (B1.length : Int) := ZH (by rw [hBl]; omega) (by omega)
    rw [e2] at q
    rw [hB2l] at r
    simp only [Qah,Qab,Qbd,Qbc,Qdx,Qel,Qeh,Qed,Qgk,decide_false,Bool.not_false,hne,hgt,w1,e1,q,w2,w3,w4,r]
    simp
theorem Qqy {H : Qa} {i ver N : Nat} {rest : List V} (hi : i < H.length) (hN : N ≤ 1000000000000) {P A B S : List X} (hA : A ≠ []) (hB : B ≠ []) (hl : (P ++ A ++ B ++ S).length = N) {a m b : Nat} (ha : a = P.length) (hm : m = P.length + A.length) (hb : b = P.length + A.length + B.length) :
  E Ad [.rs i ver 6 0 N,.int .i64 (a : Int),.int .i64 (m : Int),.int .i64 (b : Int),FC] (RH H i ver rest (P ++ A ++ B ++ S)) = some (.ret (.tup []),RH H i ver rest (P ++ B ++ A ++ S)) := by
 have hbl : (RH H i ver rest (P ++ A ++ B ++ S)).length = H.length := by simp
 have hNs : P.length + A.length + B.length + S.length = N := by rw [← hl]; simp [Nat.add_assoc]
 have q := QoH (ver := ver) (rest := rest) hi hN (m := m) (A.length + B.length) P A B S (Nat.le_refl _) hA hB hm.symm hl
 have w1 : IntKind.i64.wrap ((m : Int) - (a : Int)) = (A.length : Int) := ZH (by omega) (by omega)
 have w2 : IntKind.i64.wrap ((b : Int) - (m : Int)) = (B.length : Int) := ZH (by omega) (by omega)
 rw [QqC,QmI,hbl]
 simp only [Qah,Qel,w1,w2,q]
theorem F4 (k : Nat) (h : k ≤ 100000000000000) : IntKind.u64.wrap (k : Int) = (k : Int) ∧ Qb .shr 6 (.int .u64 (k : Int)) (.int .u64 1) = some (.int .u64 ((k / 2 : Nat) : Int)) ∧ IntKind.i64.wrap ((k / 2 : Nat) : Int) = ((k / 2 : Nat) : Int) := by
 refine ⟨?_,?_,wrap_i64 (by omega) (by omega)⟩
 ·simp only [IntKind.wrap,IntKind.bits,IntKind.signed,Bool.false_and,Bool.false_eq_true,if_false,Int.reducePow]
  omega
 ·rw [QbK (by decide)]
  have h1 : min ((1 : Int)).toNat IntKind.u64.bits = 1 := by decide
  rw [h1,Int.fdiv_eq_ediv_of_nonneg _ (by decide)]
  norm_cast
theorem Ar {C : List X} (h : 0 < C.length) : ∃ C1 x C2,C = C1 ++ x :: C2 ∧ C1.length = C.length / 2 ∧ C2.length = C.length - 1 - C.length / 2 := by
 have hq : C.length / 2 < C.length := by omega
 refine ⟨C.take (C.length / 2),C[C.length / 2],C.drop (C.length / 2 + 1),?_,by simp; omega,by simp; omega⟩
 rw [List.getElem_cons_drop]; simp
theorem Qio {H : Qa} {i ver N : Nat} {rest : List V} (hi : i < H.length) (hN : N ≤ 1000000000000) {P Q : List X} {x : X} {e : Nat} : ∀ (Y2 Y1 : List X),e = P.length + Y1.length + Y2.length + 1 → (P ++ Y1 ++ x :: Y2 ++ Q).length = N →
  Ps H.length (.rs i ver 6 0 N) (.int .i64 (e : Int)) (.int .i64 ((P.length + Y1.length : Nat) : Int)) (RH H i ver rest (P ++ Y1 ++ x :: Y2 ++ Q)) = some (.ret (.tup []),RH H i ver rest (P ++ (Y1 ++ Y2) ++ x :: Q)) := by
 intro Y2
 induction Y2 with
 | nil =>
  intro Y1 he hl
  have hNs : P.length + Y1.length + 1 + Q.length = N := by rw [← hl]; simp; omega
  have w1 : IntKind.i64.wrap ((e : Int) - 1) = ((P.length + Y1.length : Nat) : Int) := ZH (by rw [he]; simp) (by omega)
  rw [Qhp]
  simp only [Qah,Qbc,Qdx,Qel,Qef,Qgk,Qcs,decide_false,List.append_nil,w1,Int.lt_irrefl]
  simp
 | cons y Y2 ih =>
  intro Y1 he hl
  have hNs : P.length + Y1.length + 1 + (Y2.length + 1) + Q.length = N := by rw [← hl]; simp; omega
  simp only [List.length_cons] at he
  have w1 : IntKind.i64.wrap ((e : Int) - 1) = ((e - 1 : Nat) : Int) := ZH (by omega) (by omega)
  have w2 := YP (a := P.length + Y1.length) (by omega)
  have h' : ((P.length + Y1.length : Nat) : Int) < ((e - 1 : Nat) : Int) := by omega
  have i0 := YI (i := i) (ver := ver) (N := N) (j := P.length + Y1.length) (by omega)
  have i1 := YI (i := i) (ver := ver) (N := N) (j := P.length + Y1.length + 1) (by omega)
  have e1 : P ++ Y1 ++ x :: y :: Y2 ++ Q = (P ++ Y1) ++ x :: (y :: Y2 ++ Q) := by simp
  have e2 : P ++ Y1 ++ x :: y :: Y2 ++ Q = (P ++ Y1 ++ [x]) ++ y :: (Y2 ++ Q) := by simp
  have e3 : (P ++ Y1) ++ y :: (y :: Y2 ++ Q) = (P ++ Y1 ++ [y]) ++ y :: (Y2 ++ Q) := by simp
  have l0 := YE (ver := ver) (rest := rest) hi e1 (j := P.length + Y1.length) (by simp)
  have l1 := YE (ver := ver) (rest := rest) hi e2 (j := P.length + Y1.length + 1) (by simp [Nat.add_assoc])
  have s0 := KW (O := H.length) (ver := ver) (rest := rest) hi e1 (j := P.length + Y1.length) (by simp) y
  have s1 := KW (O := H.length) (ver := ver) (rest := rest) hi e3 (j := P.length + Y1.length + 1) (by simp [Nat.add_assoc]) x
  have e4 : P ++ Y1 ++ [y] ++ x :: (Y2 ++ Q) = P ++ (Y1 ++ [y]) ++ x :: Y2 ++ Q := by simp
  rw [e4] at s1
  have q := ih (Y1 ++ [y]) (by simp; omega) (by rw [← hl]; simp)
  have e5 : P.length + (Y1 ++ [y]).length = P.length + Y1.length + 1 := by simp [Nat.add_assoc]
  rw [e5] at q
  rw [Qhp]
  simp only [Qah,Qag,Qbd,Qdx,Qel,Qef,Qgk,Qcs,decide_true,w1,h',w2,i0,i1,l0,l1,s0,s1]
  rw [q]
  simp
theorem Qkf {H : Qa} {i ver N : Nat} {rest : List V} (hi : i < H.length) (hN : N ≤ 1000000000000) {P Q : List X} {x : X} : ∀ (n : Nat) (Y1 Y2 : List X),Y1.length = n → (P ++ Y1 ++ x :: Y2 ++ Q).length = N →
  FP H.length (.rs i ver 6 0 N) (.int .i64 (P.length : Int)) (.int .i64 ((P.length + Y1.length : Nat) : Int)) (RH H i ver rest (P ++ Y1 ++ x :: Y2 ++ Q)) = some (.ret (.tup []),RH H i ver rest (P ++ x :: (Y1 ++ Y2) ++ Q)) := by
 intro n
 induction n with
 | zero =>
  intro Y1 Y2 hn hl
  have : Y1 = [] := List.length_eq_zero_iff.1 hn
  subst this
  rw [Ti]
  simp only [Qah,Qbc,Qel,Qed,Qgk,Qcs,decide_false,List.length_nil,Nat.add_zero,List.append_nil,List.nil_append,Int.lt_irrefl]
 | succ n ih =>
  intro Y1 Y2 hn hl
  rcases List.eq_nil_or_concat Y1 with rfl | ⟨S,y,rfl⟩
  ·simp at hn
  rw [List.concat_eq_append] at *
  have hNs : P.length + (S.length + 1) + 1 + Y2.length + Q.length = N := by rw [← hl]; simp; omega
  have e5 : P.length + (S ++ [y]).length = P.length + S.length + 1 := by simp [Nat.add_assoc]
  rw [e5]
  have w1 := CL (a := P.length + S.length) (by omega)
  have h' : (P.length : Int) < ((P.length + S.length + 1 : Nat) : Int) := by omega
  have i0 := YI (i := i) (ver := ver) (N := N) (j := P.length + S.length) (by omega)
  have i1 := YI (i := i) (ver := ver) (N := N) (j := P.length + S.length + 1) (by omega)
  have e1 : P ++ (S ++ [y]) ++ x :: Y2 ++ Q = (P ++ S) ++ y :: (x :: Y2 ++ Q) := by simp
  have e2 : P ++ (S ++ [y]) ++ x :: Y2 ++ Q = (P ++ S ++ [y]) ++ x :: (Y2 ++ Q) := by simp
  have e3 : (P ++ S ++ [y]) ++ y :: (Y2 ++ Q) = (P ++ S) ++ y :: (y :: (Y2 ++ Q)) := by simp
  have l0 := YE (ver := ver) (rest := rest) hi e1 (j := P.length + S.length) (by simp)
  have l1 := YE (ver := ver) (rest := rest) hi e2 (j := P.length + S.length + 1) (by simp [Nat.add_assoc])
  have s1 := KW (O := H.length) (ver := ver) (rest := rest) hi e2 (j := P.length + S.length + 1) (by simp [Nat.add_assoc]) y
  have s0 := KW (O := H.length) (ver := ver) (rest := rest) hi e3 (j := P.length + S.length) (by simp) x
  have e4 : P ++ S ++ x :: y :: (Y2 ++ Q) = P ++ S ++ x :: (y :: Y2) ++ Q := by simp
  rw [e4] at s0
  have q := ih S (y :: Y2) (by simpa using hn) (by rw [← hl]; simp)
  rw [Ti]
  simp only [Qah,Qag,Qbd,Qel,Qed,Qgk,Qcs,decide_true,w1,h',i0,i1,l0,l1,s0,s1]
  rw [q]
  simp
theorem Qi3 {H : Qa} {i ver N : Nat} {rest : List V} (hi : i < H.length) (hN : N ≤ 1000000000000) {L0 L1 : List X} {x : X} (hx : Wf x) : ∀ (n : Nat) (B1 C B2 : List X),C.length ≤ n → Sd txt (B1 ++ C ++ B2) → (∀ z ∈ B1,ltX z x) → (∀ z ∈ B2,¬ ltX z x) → (∀ z ∈ C,Wf z) → (L0 ++ x :: (B1 ++ C ++ B2) ++ L1).length = N →
  ∃ M,Sd txt M ∧ St txt (x :: (B1 ++ C ++ B2)) M ∧ Lk H.length (.rs i ver 6 0 N) (.int .i64 (L0.length : Int)) FC (.int .i64 ((L0.length + 1 + B1.length : Nat) : Int)) (.int .i64 ((L0.length + 1 + B1.length + C.length : Nat) : Int)) (RH H i ver rest (L0 ++ x :: (B1 ++ C ++ B2) ++ L1)) = some (.ret (.tup []),RH H i ver rest (L0 ++ M ++ L1)) := by
 intro n
 induction n with
 | zero =>
  intro B1 C B2 hn hs h1 h2 hw hl
  have : C = [] := List.length_eq_zero_iff.1 (by omega)
  subst this
  rw [List.append_nil] at *
  refine ⟨B1 ++ x :: B2,Sd.between hs (fun z hz => lt_asymm (h1 z hz)) h2,?_,?_⟩
  ·have : St txt ([x] ++ B1) (B1 ++ [x]) := St.swapL (by simpa using h1)
   have := this.append (St.refl B2)
   simpa using this
  ·have q := Qio (ver := ver) (rest := rest) hi hN (P := L0) (Q := B2 ++ L1) (x := x) (e := L0.length + 1 + B1.length) B1 [] (by simp; omega) (by rw [← hl]; simp)
   rw [C6]
   simp only [Qah,Qbc,Qep,Qey,Qdx,Qef,decide_false,List.length_nil,Nat.add_zero,List.append_nil,Int.lt_irrefl]
   simp only [List.append_nil,List.nil_append,List.length_nil,Nat.add_zero] at q
   have e : L0 ++ x :: (B1 ++ B2) ++ L1 = L0 ++ x :: B1 ++ (B2 ++ L1) := by simp
   rw [e,q]
   simp
 | succ n ih =>
  intro B1 C B2 hn hs h1 h2 hw hl
  by_cases hC : C.length = 0
  ·exact ih B1 C B2 (by omega) hs h1 h2 hw hl
  ·obtain ⟨C1,z,C2,rfl,hc1,hc2⟩ := Ar (C := C) (by omega)
   have hz : Wf z := hw z (by simp)
   have hCl : (C1 ++ z :: C2).length = C1.length + (C2.length + 1) := by simp
   rw [hCl] at hn hc1 hc2
   have hNs : L0.length + 1 + B1.length + (C1.length + (C2.length + 1)) + B2.length + L1.length = N := by rw [← hl]; simp; omega
   have w1 : IntKind.i64.wrap (((L0.length + 1 + B1.length : Nat) : Int) + ((L0.length + 1 + B1.length + (C1 ++ z :: C2).length : Nat) : Int)) = ((L0.length + 1 + B1.length + (L0.length + 1 + B1.length + (C1 ++ z :: C2).length) : Nat) : Int) := ZH (by omega) (by rw [hCl]; omega)
   obtain ⟨u1,u2,u3⟩ := F4 (L0.length + 1 + B1.length + (L0.length + 1 + B1.length + (C1 ++ z :: C2).length)) (by rw [hCl]; omega)
   have hh : (L0.length + 1 + B1.length + (L0.length + 1 + B1.length + (C1 ++ z :: C2).length)) / 2 = L0.length + 1 + B1.length + C1.length := by rw [hCl]; omega
   rw [hh] at u2 u3
   have h' : ((L0.length + 1 + B1.length : Nat) : Int) < ((L0.length + 1 + B1.length + (C1 ++ z :: C2).length : Nat) : Int) := by rw [hCl]; omega
   have e1 : L0 ++ x :: (B1 ++ (C1 ++ z :: C2) ++ B2) ++ L1 = (L0 ++ x :: (B1 ++ C1)) ++ z :: (C2 ++ B2 ++ L1) := by simp
   have e0 : L0 ++ x :: (B1 ++ (C1 ++ z :: C2) ++ B2) ++ L1 = L0 ++ x :: (B1 ++ (C1 ++ z :: C2) ++ B2 ++ L1) := by simp
   have i1 := YI (i := i) (ver := ver) (N := N) (j := L0.length + 1 + B1.length + C1.length) (by omega)
   have i0 := YI (i := i) (ver := ver) (N := N) (j := L0.length) (by omega)
   have l1 := YE (ver := ver) (rest := rest) hi e1 (j := L0.length + 1 + B1.length + C1.length) (by simp; omega)
   have l0 := YE (ver := ver) (rest := rest) hi e0 (j := L0.length) rfl
   have cm := fun G => (show E Uw ([Qd z,Qd x] ++ []) G = _ from Ga hz hx G)
   have hsz : Sd txt ((B1 ++ C1) ++ z :: (C2 ++ B2)) := by simpa using hs
   obtain ⟨k1,k2⟩ := Sd.upto hsz
   by_cases hlt : ltX z x
   ·have hc : Lib.compareBytes (txt z) (txt x) < 0 := hlt
    have eL : B1 ++ (C1 ++ z :: C2) ++ B2 = (B1 ++ C1 ++ [z]) ++ C2 ++ B2 := by simp
    have w2 := YP (a := L0.length + 1 + B1.length + C1.length) (by omega)
    rw [eL] at hs hl ⊢
    obtain ⟨M,m1,m2,m3⟩ := ih (B1 ++ C1 ++ [z]) C2 B2 (by omega) hs (fun u hu => QfB (k1 u (by simpa using hu)) hlt) h2 (fun u hu => hw u (by simp [hu])) hl
    refine ⟨M,m1,m2,?_⟩
    have e2 : L0.length + 1 + (B1 ++ C1 ++ [z]).length = L0.length + 1 + B1.length + C1.length + 1 := by simp; omega
    have e3 : L0.length + 1 + B1.length + C1.length + 1 + C2.length = L0.length + 1 + B1.length + (C1 ++ z :: C2).length := by rw [hCl]; omega
    rw [e2,e3] at m3
    rw [eL] at l1 l0
    rw [C6]
    simp only [Qah,Qab,Qbd,Qep,Qey,Qdx,Qef,decide_true,h',w1,u1,u2,u3,i1,i0,l1,l0,cm,hc,w2]
    exact m3
   ·have hc : ¬ Lib.compareBytes (txt z) (txt x) < 0 := hlt
    have eL : B1 ++ (C1 ++ z :: C2) ++ B2 = B1 ++ C1 ++ (z :: C2 ++ B2) := by simp
    rw [eL] at hs hl ⊢
    obtain ⟨M,m1,m2,m3⟩ := ih B1 C1 (z :: C2 ++ B2) (by omega) hs h1 (fun u hu => le_trans hlt (k2 u (by simpa using hu))) (fun u hu => hw u (by simp [hu])) hl
    refine ⟨M,m1,m2,?_⟩
    rw [eL] at l1 l0
    rw [C6]
    simp only [Qah,Qab,Qbd,Qbc,Qep,Qey,Qdx,Qef,decide_true,decide_false,h',w1,u1,u2,u3,i1,i0,l1,l0,cm,hc]
    exact m3
end Go.Proofs.YtdnmpaielmfiiaaDoor
end
