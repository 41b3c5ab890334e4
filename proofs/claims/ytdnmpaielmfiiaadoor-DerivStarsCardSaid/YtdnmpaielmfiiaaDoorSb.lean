/- Sb: a part of the proof that each law of this seat answers true at every input. No condition. -/
import Derived.Test.YtdnmpaielmfiiaaDoorSa
set_option linter.unusedVariables false
set_option linter.unusedSimpArgs false
set_option maxRecDepth 20000
section
namespace Go.Proofs.YtdnmpaielmfiiaaDoor
open Go Go.Ev Go.X7 Go.Srt
set_option maxRecDepth 20000
theorem Qov {H : Qa} {i ver N : Nat} {rest : List V} (hi : i < H.length) (hN : N ≤ 1000000000000) {L0 L1 : List X} {x : X} (hx : Wf x) {b : Nat} : ∀ (n : Nat) (A1 C A2 : List X),C.length ≤ n → Sd txt (A1 ++ C ++ A2) → (∀ z ∈ A1,¬ ltX x z) → (∀ z ∈ A2,ltX x z) → (∀ z ∈ C,Wf z) → b = L0.length + (A1 ++ C ++ A2).length → (L0 ++ (A1 ++ C ++ A2) ++ x :: L1).length = N →
  ∃ M,Sd txt M ∧ St txt ((A1 ++ C ++ A2) ++ [x]) M ∧ RV H.length (.rs i ver 6 0 N) (.int .i64 (b : Int)) FC (.int .i64 ((L0.length + A1.length : Nat) : Int)) (.int .i64 ((L0.length + A1.length + C.length : Nat) : Int)) (RH H i ver rest (L0 ++ (A1 ++ C ++ A2) ++ x :: L1)) = some (.ret (.tup []),RH H i ver rest (L0 ++ M ++ L1)) := by
 intro n
 induction n with
 | zero =>
  intro A1 C A2 hn hs h1 h2 hw hb hl
  have : C = [] := List.length_eq_zero_iff.1 (by omega)
  subst this
  rw [List.append_nil] at *
  refine ⟨A1 ++ x :: A2,Sd.insert hs h1 h2,?_,?_⟩
  ·have : St txt (A2 ++ [x]) ([x] ++ A2) := St.swapL (by simpa using h2)
   have := (St.refl (key := txt) A1).append this
   simpa using this
  ·have q := Qkf (ver := ver) (rest := rest) hi hN (P := L0 ++ A1) (Q := L1) (x := x) A2.length A2 [] rfl (by rw [← hl]; simp)
   have e : L0 ++ (A1 ++ A2) ++ x :: L1 = L0 ++ A1 ++ A2 ++ x :: [] ++ L1 := by simp
   have e2 : (L0 ++ A1).length + A2.length = b := by rw [hb]; simp [Nat.add_assoc]
   have e3 : (L0 ++ A1).length = L0.length + A1.length := by simp
   rw [e2,e3] at q
   rw [A6]
   simp only [Qah,Qbc,Qep,Qey,Qdx,Qef,decide_false,List.length_nil,Nat.add_zero,List.append_nil,Int.lt_irrefl]
   rw [e,q]
   simp
 | succ n ih =>
  intro A1 C A2 hn hs h1 h2 hw hb hl
  by_cases hC : C.length = 0
  ·exact ih A1 C A2 (by omega) hs h1 h2 hw hb hl
  ·obtain ⟨C1,z,C2,rfl,hc1,hc2⟩ := Ar (C := C) (by omega)
   have hz : Wf z := hw z (by simp)
   have hCl : (C1 ++ z :: C2).length = C1.length + (C2.length + 1) := by simp
   rw [hCl] at hn hc1 hc2
   have hAl : (A1 ++ (C1 ++ z :: C2) ++ A2).length = A1.length + (C1.length + (C2.length + 1)) + A2.length := by simp; omega
   rw [hAl] at hb
   have hNs : L0.length + A1.length + (C1.length + (C2.length + 1)) + A2.length + (1 + L1.length) = N := by rw [← hl]; simp; omega
   have w1 : IntKind.i64.wrap (((L0.length + A1.length : Nat) : Int) + ((L0.length + A1.length + (C1 ++ z :: C2).length : Nat) : Int)) = ((L0.length + A1.length + (L0.length + A1.length + (C1 ++ z :: C2).length) : Nat) : Int) := ZH (by omega) (by rw [hCl]; omega)
   obtain ⟨u1,u2,u3⟩ := F4 (L0.length + A1.length + (L0.length + A1.length + (C1 ++ z :: C2).length)) (by rw [hCl]; omega)
   have hh : (L0.length + A1.length + (L0.length + A1.length + (C1 ++ z :: C2).length)) / 2 = L0.length + A1.length + C1.length := by rw [hCl]; omega
   rw [hh] at u2 u3
   have h' : ((L0.length + A1.length : Nat) : Int) < ((L0.length + A1.length + (C1 ++ z :: C2).length : Nat) : Int) := by rw [hCl]; omega
   have e1 : L0 ++ (A1 ++ (C1 ++ z :: C2) ++ A2) ++ x :: L1 = (L0 ++ (A1 ++ C1)) ++ z :: (C2 ++ A2 ++ x :: L1) := by simp
   have e0 : L0 ++ (A1 ++ (C1 ++ z :: C2) ++ A2) ++ x :: L1 = (L0 ++ (A1 ++ (C1 ++ z :: C2) ++ A2)) ++ x :: L1 := by simp
   have i1 := YI (i := i) (ver := ver) (N := N) (j := L0.length + A1.length + C1.length) (by omega)
   have i0 := YI (i := i) (ver := ver) (N := N) (j := b) (by omega)
   have l1 := YE (ver := ver) (rest := rest) hi e1 (j := L0.length + A1.length + C1.length) (by simp; omega)
   have l0 := YE (ver := ver) (rest := rest) hi e0 (j := b) (by rw [hb]; simp; omega)
   have cm := fun G => (show E Uw ([Qd x,Qd z] ++ []) G = _ from Ga hx hz G)
   have hsz : Sd txt ((A1 ++ C1) ++ z :: (C2 ++ A2)) := by simpa using hs
   obtain ⟨k1,k2⟩ := Sd.upto hsz
   by_cases hlt : ltX x z
   ·have hc : Lib.compareBytes (txt x) (txt z) < 0 := hlt
    have eL : A1 ++ (C1 ++ z :: C2) ++ A2 = A1 ++ C1 ++ (z :: C2 ++ A2) := by simp
    rw [eL] at hs hl ⊢
    obtain ⟨M,m1,m2,m3⟩ := ih A1 C1 (z :: C2 ++ A2) (by omega) hs h1 (fun u hu => X9 hlt (k2 u (by simpa using hu))) (fun u hu => hw u (by simp [hu])) (by rw [hb]; simp; omega) hl
    refine ⟨M,m1,m2,?_⟩
    rw [eL] at l1 l0
    rw [A6]
    simp only [Qah,Qab,Qbd,Qbc,Qep,Qfu,Qey,Qdx,Qef,decide_true,Bool.not_true,h',w1,u1,u2,u3,i1,i0,l1,l0,cm,hc]
    exact m3
   ·have hc : ¬ Lib.compareBytes (txt x) (txt z) < 0 := hlt
    have eL : A1 ++ (C1 ++ z :: C2) ++ A2 = (A1 ++ C1 ++ [z]) ++ C2 ++ A2 := by simp
    have w2 := YP (a := L0.length + A1.length + C1.length) (by omega)
    rw [eL] at hs hl ⊢
    obtain ⟨M,m1,m2,m3⟩ := ih (A1 ++ C1 ++ [z]) C2 A2 (by omega) hs (fun u hu => le_trans (k1 u (by simpa using hu)) hlt) h2 (fun u hu => hw u (by simp [hu])) (by rw [hb]; simp; omega) hl
    refine ⟨M,m1,m2,?_⟩
    have e2 : L0.length + (A1 ++ C1 ++ [z]).length = L0.length + A1.length + C1.length + 1 := by simp; omega
    have e3 : L0.length + A1.length + C1.length + 1 + C2.length = L0.length + A1.length + (C1 ++ z :: C2).length := by rw [hCl]; omega
    rw [e2,e3] at m3
    rw [eL] at l1 l0
    rw [A6]
    simp only [Qah,Qab,Qbd,Qep,Qfu,Qey,Qdx,Qef,decide_true,decide_false,Bool.not_false,h',w1,u1,u2,u3,i1,i0,l1,l0,cm,hc,w2]
    exact m3
def Dz (H : Qa) (i ver N : Nat) (rest : List V) (n : Nat) : Prop := ∀ (L0 A B L1 : List X),A.length + B.length ≤ n → A ≠ [] → B ≠ [] → Sd txt A → Sd txt B → (∀ z ∈ A ++ B,Wf z) → (L0 ++ A ++ B ++ L1).length = N →
 ∃ M,Sd txt M ∧ St txt (A ++ B) M ∧ E Bf [.rs i ver 6 0 N,.int .i64 (L0.length : Int),.int .i64 ((L0.length + A.length : Nat) : Int),.int .i64 ((L0.length + A.length + B.length : Nat) : Int),FC] (RH H i ver rest (L0 ++ A ++ B ++ L1)) = some (.ret (.tup []),RH H i ver rest (L0 ++ M ++ L1))
theorem Qqa {H : Qa} {i ver N : Nat} {rest : List V} (hi : i < H.length) (hN : N ≤ 1000000000000) {n : Nat} (ih : Dz H i ver N rest n) {L0 A1 A2 B1 B2 L1 : List X} (h1 : A1.length + B1.length ≤ n) (h2 : A2.length + B2.length ≤ n) (sA : Sd txt (A1 ++ A2)) (sB : Sd txt (B1 ++ B2))
  (hw : ∀ z ∈ A1 ++ A2 ++ (B1 ++ B2),Wf z) (hl : (L0 ++ A1 ++ B1 ++ A2 ++ B2 ++ L1).length = N) (c1 : ∀ x ∈ A1,∀ y ∈ B2,¬ ltX y x) (c2 : ∀ x ∈ A2,∀ y ∈ B1,ltX y x) :
  ∃ M,Sd txt M ∧ St txt (A1 ++ A2 ++ (B1 ++ B2)) M ∧ RL H.length (.rs i ver 6 0 N) (.int .i64 (L0.length : Int)) (.int .i64 ((L0.length + A1.length + B1.length + A2.length + B2.length : Nat) : Int)) FC (.int .i64 ((L0.length + A1.length + B1.length : Nat) : Int)) (.int .i64 ((L0.length + A1.length : Nat) : Int)) (.int .i64 ((L0.length + A1.length + B1.length + A2.length : Nat) : Int)) (RH H i ver rest (L0 ++ A1 ++ B1 ++ A2 ++ B2 ++ L1)) = some (.ret (.tup []),RH H i ver rest (L0 ++ M ++ L1)) := by
 obtain ⟨sA1,sA2⟩ := Sd.sub sA
 obtain ⟨sB1,sB2⟩ := Sd.sub sB
 have hsw : St txt (A1 ++ A2 ++ (B1 ++ B2)) ((A1 ++ B1) ++ (A2 ++ B2)) := by
  have := (St.refl (key := txt) A1).append ((St.swapL (key := txt) (x := A2) (y := B1) c2).append (St.refl B2))
  simpa using this
 have cr : ∀ x ∈ A1 ++ B1,∀ y ∈ A2 ++ B2,¬ ltX y x := fun x hx y hy => by
  rcases List.mem_append.1 hx with hx | hx <;> rcases List.mem_append.1 hy with hy | hy
  ·exact (List.pairwise_append.1 sA).2.2 x hx y hy
  ·exact c1 x hx y hy
  ·exact lt_asymm (c2 y hy x hx)
  ·exact (List.pairwise_append.1 sB).2.2 x hx y hy
 have first : ∃ C,Sd txt C ∧ St txt (A1 ++ B1) C ∧ RL H.length (.rs i ver 6 0 N) (.int .i64 (L0.length : Int)) (.int .i64 ((L0.length + A1.length + B1.length + A2.length + B2.length : Nat) : Int)) FC (.int .i64 ((L0.length + A1.length + B1.length : Nat) : Int)) (.int .i64 ((L0.length + A1.length : Nat) : Int)) (.int .i64 ((L0.length + A1.length + B1.length + A2.length : Nat) : Int)) (RH H i ver rest (L0 ++ A1 ++ B1 ++ A2 ++ B2 ++ L1)) =
   Mc H.length (.rs i ver 6 0 N) (.int .i64 ((L0.length + A1.length + B1.length + A2.length + B2.length : Nat) : Int)) FC (.int .i64 ((L0.length + A1.length + B1.length : Nat) : Int)) (.int .i64 ((L0.length + A1.length + B1.length + A2.length : Nat) : Int)) (RH H i ver rest (L0 ++ C ++ A2 ++ B2 ++ L1)) := by
  by_cases hA : A1 = []
  ·subst hA
   have h0 : ¬ (L0.length : Int) < ((L0.length + 0 : Nat) : Int) := by omega
   refine ⟨B1,sB1,St.refl _,?_⟩
   rw [Ch]
   simp only [Nat.add_zero] at h0
   simp only [Qah,Qbc,Qcf,Qfm,Qfq,Qef,decide_false,List.length_nil,Nat.add_zero,List.append_nil,h0]
  ·have hA1 := List.length_pos_iff.2 hA
   have h0 : (L0.length : Int) < ((L0.length + A1.length : Nat) : Int) := by omega
   by_cases hB : B1 = []
   ·subst hB
    have h3 : ¬ ((L0.length + A1.length : Nat) : Int) < ((L0.length + A1.length + 0 : Nat) : Int) := by omega
    refine ⟨A1,sA1,by simpa using St.refl A1,?_⟩
    rw [Ch]
    simp only [Nat.add_zero] at h3
    simp only [Qah,Qbc,Qci,Qfm,Qfr,Qef,decide_true,decide_false,List.length_nil,Nat.add_zero,List.append_nil,h0,h3]
   ·have hB1 := List.length_pos_iff.2 hB
    have h3 : ((L0.length + A1.length : Nat) : Int) < ((L0.length + A1.length + B1.length : Nat) : Int) := by omega
    obtain ⟨C,k1,k2,k3⟩ := ih L0 A1 B1 (A2 ++ B2 ++ L1) h1 hA hB sA1 sB1 (fun z hz => hw z (by simp at hz ⊢; rcases hz with h | h <;> simp [h])) (by rw [← hl]; simp)
    refine ⟨C,k1,k2,?_⟩
    have e1 : L0 ++ A1 ++ B1 ++ A2 ++ B2 ++ L1 = L0 ++ A1 ++ B1 ++ (A2 ++ B2 ++ L1) := by simp
    have e2 : L0 ++ C ++ A2 ++ B2 ++ L1 = L0 ++ C ++ (A2 ++ B2 ++ L1) := by simp
    rw [Ch,e1,e2]
    simp only [Qah,Qab,Qbd,Qci,Qfm,Qfr,Qef,decide_true,h0,h3,k3]
 obtain ⟨C,k1,k2,k3⟩ := first
 have hCl : C.length = A1.length + B1.length := by rw [k2.1]; simp
 have second : ∃ D,Sd txt D ∧ St txt (A2 ++ B2) D ∧ Mc H.length (.rs i ver 6 0 N) (.int .i64 ((L0.length + A1.length + B1.length + A2.length + B2.length : Nat) : Int)) FC (.int .i64 ((L0.length + A1.length + B1.length : Nat) : Int)) (.int .i64 ((L0.length + A1.length + B1.length + A2.length : Nat) : Int)) (RH H i ver rest (L0 ++ C ++ A2 ++ B2 ++ L1)) = some (.ret (.tup []),RH H i ver rest (L0 ++ C ++ D ++ L1)) := by
  by_cases hA : A2 = []
  ·subst hA
   have h0 : ¬ ((L0.length + A1.length + B1.length : Nat) : Int) < ((L0.length + A1.length + B1.length + 0 : Nat) : Int) := by omega
   refine ⟨B2,sB2,St.refl _,?_⟩
   rw [Cj]
   simp only [Nat.add_zero] at h0
   simp only [Qah,Qbc,Qcf,Qfm,Qfq,Qef,Qgk,Qcs,decide_false,List.length_nil,Nat.add_zero,List.append_nil,h0]
  ·have hA1 := List.length_pos_iff.2 hA
   have h0 : ((L0.length + A1.length + B1.length : Nat) : Int) < ((L0.length + A1.length + B1.length + A2.length : Nat) : Int) := by omega
   by_cases hB : B2 = []
   ·subst hB
    have h3 : ¬ ((L0.length + A1.length + B1.length + A2.length : Nat) : Int) < ((L0.length + A1.length + B1.length + A2.length + 0 : Nat) : Int) := by omega
    refine ⟨A2,sA2,by simpa using St.refl A2,?_⟩
    rw [Cj]
    simp only [Nat.add_zero] at h3
    simp only [Qah,Qbc,Qci,Qfm,Qfr,Qef,Qgk,Qcs,decide_true,decide_false,List.length_nil,Nat.add_zero,List.append_nil,h0,h3]
   ·have hB1 := List.length_pos_iff.2 hB
    have h3 : ((L0.length + A1.length + B1.length + A2.length : Nat) : Int) < ((L0.length + A1.length + B1.length + A2.length + B2.length : Nat) : Int) := by omega
    obtain ⟨D,d1,d2,d3⟩ := ih (L0 ++ C) A2 B2 L1 h2 hA hB sA2 sB2 (fun z hz => hw z (by simp at hz ⊢; rcases hz with h | h <;> simp [h])) (by rw [← hl]; simp [hCl]; omega)
    refine ⟨D,d1,d2,?_⟩
    have e2 : (L0 ++ C).length = L0.length + A1.length + B1.length := by simp [hCl,Nat.add_assoc]
    rw [e2] at d3
    rw [Cj]
    simp only [Qah,Qab,Qbd,Qci,Qfm,Qfr,Qef,Qgk,Qcs,decide_true,h0,h3,d3]
 obtain ⟨D,d1,d2,d3⟩ := second
 refine ⟨C ++ D,Sd.join k1 d1 (fun x hx y hy => cr x ((k2.mem x).1 hx) y ((d2.mem y).1 hy)),hsw.trans (k2.append d2),?_⟩
 rw [k3,d3]
 simp
theorem QmH {D : List X} (h : 0 < D.length) : ∃ D1 y D2,D = D1 ++ y :: D2 ∧ D1.length = D.length - 1 - D.length / 2 ∧ D2.length = D.length / 2 := by
 have hq : D.length - 1 - D.length / 2 < D.length := by omega
 refine ⟨D.take (D.length - 1 - D.length / 2),D[D.length - 1 - D.length / 2],D.drop (D.length - 1 - D.length / 2 + 1),?_,by simp; omega,by simp; omega⟩
 rw [List.getElem_cons_drop]; simp
theorem Qd8 (A : List X) {p q : Nat} (h : p + q ≤ A.length) : ∃ A0 C A9,A = A0 ++ C ++ A9 ∧ A0.length = p ∧ C.length = q :=
 ⟨A.take p,(A.drop p).take q,(A.drop p).drop q,by rw [List.append_assoc,List.take_append_drop,List.take_append_drop],by simp; omega,by simp; omega⟩
set_option maxHeartbeats 4000000 in
theorem QfZ {H : Qa} {i ver N : Nat} {rest : List V} (hi : i < H.length) (hN : N ≤ 1000000000000) {n : Nat} (im : Dz H i ver N rest n) {L0 L1 : List X} {m b mid n0 : Nat} : ∀ (k : Nat) (A1 C A2 B1 D B2 : List X),C.length ≤ k → C.length = D.length →
  m = L0.length + A1.length + C.length + A2.length → n0 = L0.length + A1.length + m + B1.length + D.length → mid = L0.length + A1.length + B1.length + D.length → b = m + B1.length + D.length + B2.length →
  A1.length + B1.length + D.length ≤ n → A2.length + B2.length + C.length ≤ n → Sd txt (A1 ++ C ++ A2) → Sd txt (B1 ++ D ++ B2) → (∀ z ∈ A1 ++ C ++ A2 ++ (B1 ++ D ++ B2),Wf z) →
  (∀ x ∈ A1,∀ y ∈ B2,¬ ltX y x) → (∀ x ∈ A2,∀ y ∈ B1,ltX y x) → (L0 ++ (A1 ++ C ++ A2) ++ (B1 ++ D ++ B2) ++ L1).length = N →
  ∃ M,Sd txt M ∧ St txt (A1 ++ C ++ A2 ++ (B1 ++ D ++ B2)) M ∧ N5 H.length (.rs i ver 6 0 N) (.int .i64 (L0.length : Int)) (.int .i64 (m : Int)) (.int .i64 (b : Int)) FC (.int .i64 (mid : Int)) (.int .i64 (n0 : Int)) (.int .i64 ((L0.length + A1.length : Nat) : Int)) (.int .i64 ((L0.length + A1.length + C.length : Nat) : Int)) (.int .i64 ((n0 : Int) - 1)) (RH H i ver rest (L0 ++ (A1 ++ C ++ A2) ++ (B1 ++ D ++ B2) ++ L1)) = some (.ret (.tup []),RH H i ver rest (L0 ++ M ++ L1)) := by
 intro k
 induction k with
 | zero =>
  intro A1 C A2 B1 D B2 hk hCD hm hn0 hmid hb g1 g2 sA sB hw c1 c2 hl
  have hC : C = [] := List.length_eq_zero_iff.1 (by omega)
  have hD : D = [] := List.length_eq_zero_iff.1 (by omega)
  subst hC hD
  simp only [List.append_nil,List.length_nil,Nat.add_zero] at sA sB hw hl ⊢
  simp only [List.length_nil,Nat.add_zero] at hm hn0 hmid hb g1 g2
  have hNs : L0.length + A1.length + A2.length + B1.length + B2.length + L1.length = N := by rw [← hl]; simp; omega
  have w1 : IntKind.i64.wrap ((n0 : Int) - ((L0.length + A1.length : Nat) : Int)) = ((m + B1.length : Nat) : Int) := ZH (by omega) (by omega)
  obtain ⟨M,m1,m2,m3⟩ := Qqa (ver := ver) (rest := rest) hi hN im (L0 := L0) (A1 := A1) (A2 := A2) (B1 := B1) (B2 := B2) (L1 := L1) g1 g2 sA sB hw (by rw [← hl]; simp; omega) c1 c2
  refine ⟨M,m1,m2,?_⟩
  have x1 : L0.length + A1.length + B1.length + A2.length + B2.length = b := by omega
  have x2 : L0.length + A1.length + B1.length = mid := by omega
  have x3 : mid + A2.length = m + B1.length := by omega
  rw [x1,x2,x3] at m3
  rw [CE]
  by_cases hA : A2 = []
  ·subst hA
   have h0 : ¬ ((L0.length + A1.length : Nat) : Int) < (m : Int) := by simp at hm; omega
   have e : L0 ++ (A1 ++ []) ++ (B1 ++ B2) ++ L1 = L0 ++ A1 ++ B1 ++ [] ++ B2 ++ L1 := by simp
   rw [e]
   simp only [Qah,Qbc,Qcf,Qfm,Qfq,Qep,Qey,Qdx,Qel,Qef,decide_false,List.cons_append,Int.lt_irrefl,w1,h0]
   exact m3
  ·have hA1 := List.length_pos_iff.2 hA
   have h0 : ((L0.length + A1.length : Nat) : Int) < (m : Int) := by omega
   by_cases hB : B1 = []
   ·subst hB
    have h3 : ¬ (m : Int) < ((m + ([] : List X).length : Nat) : Int) := by simp
    have e : L0 ++ (A1 ++ A2) ++ ([] ++ B2) ++ L1 = L0 ++ A1 ++ [] ++ A2 ++ B2 ++ L1 := by simp
    rw [e]
    simp only [Qah,Qbc,Qci,Qfm,Qfr,Qep,Qey,Qdx,Qel,Qef,decide_true,decide_false,List.cons_append,Int.lt_irrefl,w1,h0,h3]
    exact m3
   ·have hB1 := List.length_pos_iff.2 hB
    have h3 : (m : Int) < ((m + B1.length : Nat) : Int) := by omega
    have e : L0 ++ (A1 ++ A2) ++ (B1 ++ B2) ++ L1 = (L0 ++ A1) ++ A2 ++ B1 ++ (B2 ++ L1) := by simp
    have e2 : (L0 ++ A1) ++ B1 ++ A2 ++ (B2 ++ L1) = L0 ++ A1 ++ B1 ++ A2 ++ B2 ++ L1 := by simp
    have r := Qqy (ver := ver) (rest := rest) hi hN (P := L0 ++ A1) (A := A2) (B := B1) (S := B2 ++ L1) hA hB (by rw [← hl]; simp) (a := L0.length + A1.length) (m := m) (b := m + B1.length) (by simp) (by simp; omega) (by simp; omega)
    rw [e2] at r
    rw [e]
    simp only [Qah,Qab,Qbd,Qbc,Qci,Qfm,Qfr,Qep,Qey,Qdx,Qel,Qef,decide_true,decide_false,List.append_nil,Int.lt_irrefl,w1,h0,h3,r]
    exact m3
 | succ k ih =>
  intro A1 C A2 B1 D B2 hk hCD hm hn0 hmid hb g1 g2 sA sB hw c1 c2 hl
  by_cases hC : C.length = 0
  ·exact ih A1 C A2 B1 D B2 (by omega) hCD hm hn0 hmid hb g1 g2 sA sB hw c1 c2 hl
  ·obtain ⟨C1,x,C2,rfl,hc1,hc2⟩ := Ar (C := C) (by omega)
   obtain ⟨D1,y,D2,rfl,hd1,hd2⟩ := QmH (D := D) (by omega)
   have hx : Wf x := hw x (by simp)
   have hy : Wf y := hw y (by simp)
   have hCl : (C1 ++ x :: C2).length = C1.length + (C2.length + 1) := by simp
   have hDl : (D1 ++ y :: D2).length = D1.length + (D2.length + 1) := by simp
   rw [hCl] at hk hCD hc1 hc2 hm g2
   rw [hDl] at hCD hd1 hd2 hn0 hmid hb g1
   have hNs : L0.length + (A1.length + (C1.length + (C2.length + 1)) + A2.length) + (B1.length + (D1.length + (D2.length + 1)) + B2.length) + L1.length = N := by rw [← hl]; simp; omega
   have w1 : IntKind.i64.wrap (((L0.length + A1.length : Nat) : Int) + ((L0.length + A1.length + (C1 ++ x :: C2).length : Nat) : Int)) = ((L0.length + A1.length + (L0.length + A1.length + (C1 ++ x :: C2).length) : Nat) : Int) := ZH (by omega) (by rw [hCl]; omega)
   obtain ⟨u1,u2,u3⟩ := F4 (L0.length + A1.length + (L0.length + A1.length + (C1 ++ x :: C2).length)) (by rw [hCl]; omega)
   have hh : (L0.length + A1.length + (L0.length + A1.length + (C1 ++ x :: C2).length)) / 2 = L0.length + A1.length + C1.length := by rw [hCl]; omega
   rw [hh] at u2 u3
   have h' : ((L0.length + A1.length : Nat) : Int) < ((L0.length + A1.length + (C1 ++ x :: C2).length : Nat) : Int) := by rw [hCl]; omega
   have w3 : IntKind.i64.wrap ((n0 : Int) - 1 - ((L0.length + A1.length + C1.length : Nat) : Int)) = ((m + B1.length + D1.length : Nat) : Int) := ZH (by omega) (by omega)
   have e1 : L0 ++ (A1 ++ (C1 ++ x :: C2) ++ A2) ++ (B1 ++ (D1 ++ y :: D2) ++ B2) ++ L1 = (L0 ++ A1 ++ C1) ++ x :: (C2 ++ A2 ++ (B1 ++ (D1 ++ y :: D2) ++ B2) ++ L1) := by simp
   have e2 : L0 ++ (A1 ++ (C1 ++ x :: C2) ++ A2) ++ (B1 ++ (D1 ++ y :: D2) ++ B2) ++ L1 = (L0 ++ (A1 ++ (C1 ++ x :: C2) ++ A2) ++ B1 ++ D1) ++ y :: (D2 ++ B2 ++ L1) := by simp
   have i1 := YI (i := i) (ver := ver) (N := N) (j := L0.length + A1.length + C1.length) (by omega)
   have i2 := YI (i := i) (ver := ver) (N := N) (j := m + B1.length + D1.length) (by omega)
   have l1 := YE (ver := ver) (rest := rest) hi e1 (j := L0.length + A1.length + C1.length) (by simp [Nat.add_assoc])
   have l2 := YE (ver := ver) (rest := rest) hi e2 (j := m + B1.length + D1.length) (by simp; omega)
   have cm := fun G => (show E Uw ([Qd y,Qd x] ++ []) G = _ from Ga hy hx G)
   have sAx : Sd txt ((A1 ++ C1) ++ x :: (C2 ++ A2)) := by simpa using sA
   have sBy : Sd txt ((B1 ++ D1) ++ y :: (D2 ++ B2)) := by simpa using sB
   obtain ⟨k1,k2⟩ := Sd.upto sAx
   obtain ⟨k3,k4⟩ := Sd.upto sBy
   by_cases hlt : ltX y x
   ·have hc : Lib.compareBytes (txt y) (txt x) < 0 := hlt
    have eA : A1 ++ (C1 ++ x :: C2) ++ A2 = A1 ++ C1 ++ (x :: C2 ++ A2) := by simp
    have eB : B1 ++ (D1 ++ y :: D2) ++ B2 = (B1 ++ D1 ++ [y]) ++ D2 ++ B2 := by simp
    rw [eA] at sA hw hl l1 l2 ⊢
    rw [eB] at sB hw hl l1 l2 ⊢
    obtain ⟨M,m1,m2,m3⟩ := ih A1 C1 (x :: C2 ++ A2) (B1 ++ D1 ++ [y]) D2 B2 (by omega) (by omega) (by rw [hm]; simp; omega) (by rw [hn0]; simp; omega) (by rw [hmid]; simp; omega) (by rw [hb]; simp; omega) (by simp; omega) (by simp; omega) sA sB hw c1
     (fun u hu v hv => X9 (QfB (k3 v (by simpa using hv)) hlt) (k2 u (by simpa using hu))) hl
    refine ⟨M,m1,m2,?_⟩
    rw [CE]
    simp only [Qah,Qab,Qbd,Qbc,Qfm,Qep,Qfu,Qey,Qdx,Qel,Qef,decide_true,Bool.not_true,h',w1,u1,u2,u3,w3,i1,i2,l1,l2,cm,hc]
    exact m3
   ·have hc : ¬ Lib.compareBytes (txt y) (txt x) < 0 := hlt
    have eA : A1 ++ (C1 ++ x :: C2) ++ A2 = (A1 ++ C1 ++ [x]) ++ C2 ++ A2 := by simp
    have eB : B1 ++ (D1 ++ y :: D2) ++ B2 = B1 ++ D1 ++ (y :: D2 ++ B2) := by simp
    have w2 := YP (a := L0.length + A1.length + C1.length) (by omega)
    rw [eA] at sA hw hl l1 l2 ⊢
    rw [eB] at sB hw hl l1 l2 ⊢
    obtain ⟨M,m1,m2,m3⟩ := ih (A1 ++ C1 ++ [x]) C2 A2 B1 D1 (y :: D2 ++ B2) (by omega) (by omega) (by rw [hm]; simp; omega) (by rw [hn0]; simp; omega) (by rw [hmid]; simp; omega) (by rw [hb]; simp; omega) (by simp; omega) (by simp; omega) sA sB hw
     (fun u hu v hv => le_trans (le_trans (k1 u (by simpa using hu)) hlt) (k4 v (by simpa using hv))) c2 hl
    refine ⟨M,m1,m2,?_⟩
    have e5 : L0.length + (A1 ++ C1 ++ [x]).length = L0.length + A1.length + C1.length + 1 := by simp; omega
    have e6 : L0.length + A1.length + C1.length + 1 + C2.length = L0.length + A1.length + (C1 ++ x :: C2).length := by rw [hCl]; omega
    rw [e5,e6] at m3
    rw [CE]
    simp only [Qah,Qab,Qbd,Qfm,Qep,Qfu,Qey,Qdx,Qel,Qef,decide_true,decide_false,Bool.not_false,h',w1,u1,u2,u3,w3,i1,i2,l1,l2,cm,hc,w2]
    exact m3
set_option maxHeartbeats 4000000 in
theorem QbM {H : Qa} {i ver N : Nat} {rest : List V} (hi : i < H.length) (hN : N ≤ 1000000000000) : ∀ n,Dz H i ver N rest n := by
 intro n
 induction n with
 | zero =>
  intro L0 A B L1 hn hA
  have := List.length_pos_iff.2 hA
  omega
 | succ n ih =>
  intro L0 A B L1 hn hA hB sA sB hw hl
  have hA1 := List.length_pos_iff.2 hA
  have hB1 := List.length_pos_iff.2 hB
  have hbl : (RH H i ver rest (L0 ++ A ++ B ++ L1)).length = H.length := by simp
  have hNs : L0.length + A.length + B.length + L1.length = N := by rw [← hl]; simp; omega
  have w1 : IntKind.i64.wrap (((L0.length + A.length : Nat) : Int) - (L0.length : Int)) = (A.length : Int) := ZH (by omega) (by omega)
  have w2 : IntKind.i64.wrap (((L0.length + A.length + B.length : Nat) : Int) - ((L0.length + A.length : Nat) : Int)) = (B.length : Int) := ZH (by omega) (by omega)
  by_cases h1 : A.length = 1
  ·obtain ⟨x,rfl⟩ := List.length_eq_one_iff.1 h1
   obtain ⟨M,m1,m2,m3⟩ := Qi3 (ver := ver) (rest := rest) hi hN (L0 := L0) (L1 := L1) (x := x) (hw x (by simp)) B.length [] B [] (Nat.le_refl _) (by simpa using sB) (by simp) (by simp) (fun z hz => hw z (by simp [hz])) (by rw [← hl]; simp)
   refine ⟨M,m1,by simpa using m2,?_⟩
   have e : L0 ++ [x] ++ B ++ L1 = L0 ++ x :: ([] ++ B ++ []) ++ L1 := by simp
   have w1' : IntKind.i64.wrap (((L0.length + 1 : Nat) : Int) - (L0.length : Int)) = 1 := by rw [wrap_i64 (by omega) (by omega)]; omega
   rw [LI,FY,hbl,e]
   simp only [List.length_nil,Nat.add_zero,List.append_nil,List.nil_append] at m3
   simp only [Qah,Qbd,Qey,Qdx,Qel,Qeb,decide_true,List.length_cons,List.length_nil,Nat.zero_add,List.append_nil,List.nil_append,w1']
   exact m3
  ·have n1 : ¬ (A.length : Int) = 1 := by omega
   by_cases h2 : B.length = 1
   ·obtain ⟨x,rfl⟩ := List.length_eq_one_iff.1 h2
    obtain ⟨M,m1,m2,m3⟩ := Qov (ver := ver) (rest := rest) hi hN (L0 := L0) (L1 := L1) (x := x) (hw x (by simp)) (b := L0.length + A.length) A.length [] A [] (Nat.le_refl _) (by simpa using sA) (by simp) (by simp) (fun z hz => hw z (by simp [hz])) (by simp) (by rw [← hl]; simp)
    refine ⟨M,m1,by simpa using m2,?_⟩
    have e : L0 ++ A ++ [x] ++ L1 = L0 ++ ([] ++ A ++ []) ++ x :: L1 := by simp
    rw [LI,FY,hbl,e]
    simp only [List.length_nil,Nat.add_zero,List.append_nil,List.nil_append] at m3
    simp only [Qah,Qbc,Qey,Qdx,Qel,Qeb,decide_false,List.length_cons,List.length_nil,Nat.zero_add,List.append_nil,List.nil_append,w1,n1]
    have w2' : IntKind.i64.wrap (((L0.length + A.length + 1 : Nat) : Int) - ((L0.length + A.length : Nat) : Int)) = 1 := by rw [wrap_i64 (by omega) (by omega)]; omega
    simp only [Qbd,decide_true,w2']
    exact m3
   ·have n2 : ¬ (B.length : Int) = 1 := by omega
    obtain ⟨mid,hmid⟩ : ∃ mid,mid = (L0.length + (L0.length + A.length + B.length)) / 2 := ⟨_,rfl⟩
    have w3 : IntKind.i64.wrap ((L0.length : Int) + ((L0.length + A.length + B.length : Nat) : Int)) = ((L0.length + (L0.length + A.length + B.length) : Nat) : Int) := ZH (by omega) (by omega)
    obtain ⟨u1,u2,u3⟩ := F4 (L0.length + (L0.length + A.length + B.length)) (by omega)
    rw [← hmid] at u2 u3
    have w4 : IntKind.i64.wrap ((mid : Int) + ((L0.length + A.length : Nat) : Int)) = ((mid + (L0.length + A.length) : Nat) : Int) := ZH (by omega) (by omega)
    have w6 : IntKind.i64.wrap (((mid + (L0.length + A.length) : Nat) : Int) - 1) = ((mid + (L0.length + A.length) : Nat) : Int) - 1 := wrap_i64 (by omega) (by omega)
    by_cases h3 : mid < L0.length + A.length
    ·have h3' : (mid : Int) < ((L0.length + A.length : Nat) : Int) := by omega
     obtain ⟨A0,C,A9,rfl,hA0,hC⟩ := Qd8 A (p := mid + A.length - (L0.length + A.length + B.length) + L0.length - L0.length) (q := B.length) (by omega)
     have hAl : (A0 ++ C ++ A9).length = A0.length + C.length + A9.length := by simp; omega
     have w5 : IntKind.i64.wrap (((mid + (L0.length + (A0 ++ C ++ A9).length) : Nat) : Int) - ((L0.length + (A0 ++ C ++ A9).length + B.length : Nat) : Int)) = ((L0.length + A0.length : Nat) : Int) := ZH (by omega) (by omega)
     obtain ⟨M,m1,m2,m3⟩ := QfZ (ver := ver) (rest := rest) hi hN ih (L0 := L0) (L1 := L1) (m := L0.length + (A0 ++ C ++ A9).length) (b := L0.length + (A0 ++ C ++ A9).length + B.length) (mid := mid) (n0 := mid + (L0.length + (A0 ++ C ++ A9).length)) C.length A0 C A9 [] B [] (Nat.le_refl _) hC (by rw [hAl]; omega) (by simp; omega) (by simp; omega) (by simp) (by simp; omega) (by simp; omega) sA (by simpa using sB) (by simpa using hw) (by simp) (by simp) (by rw [← hl]; simp)
     refine ⟨M,m1,by simpa using m2,?_⟩
     have e6 : L0.length + A0.length + C.length = mid := by omega
     rw [e6] at m3
     have e : L0 ++ (A0 ++ C ++ A9) ++ B ++ L1 = L0 ++ (A0 ++ C ++ A9) ++ ([] ++ B ++ []) ++ L1 := by simp
     rw [LI,FY,hbl,e]
     simp only [Qah,Qbd,Qbc,Qey,Qdx,Qel,Qeb,Qed,decide_true,decide_false,w1,w2,n1,n2,w3,u1,u2,u3,w4,h3',w5]
     rw [Qc0]
     simp only [Qah,Qel,w6]
     exact m3
    ·have h3' : ¬ (mid : Int) < ((L0.length + A.length : Nat) : Int) := by omega
     obtain ⟨B0,D,B9,rfl,hB0,hD⟩ := Qd8 B (p := mid - (L0.length + A.length)) (q := A.length) (by omega)
     have hBl : (B0 ++ D ++ B9).length = B0.length + D.length + B9.length := by simp; omega
     obtain ⟨M,m1,m2,m3⟩ := QfZ (ver := ver) (rest := rest) hi hN ih (L0 := L0) (L1 := L1) (m := L0.length + A.length) (b := L0.length + A.length + (B0 ++ D ++ B9).length) (mid := mid) (n0 := mid + (L0.length + A.length)) A.length [] A [] B0 D B9 (Nat.le_refl _) hD.symm (by simp) (by simp; omega) (by simp; omega) (by rw [hBl]; omega) (by simp; omega) (by simp; omega) (by simpa using sA) sB (by simpa using hw) (by simp) (by simp) (by rw [← hl]; simp)
     refine ⟨M,m1,by simpa using m2,?_⟩
     have e : L0 ++ A ++ (B0 ++ D ++ B9) ++ L1 = L0 ++ ([] ++ A ++ []) ++ (B0 ++ D ++ B9) ++ L1 := by simp
     simp only [List.length_nil,Nat.add_zero] at m3
     rw [LI,FY,hbl,e]
     simp only [Qah,Qbc,Qey,Qdx,Qel,Qeb,Qed,decide_false,w1,w2,n1,n2,w3,u1,u2,u3,w4,h3']
     rw [Qc0]
     simp only [Qah,Qel,w6]
     exact m3
inductive Bk (k : Nat) : List X → Prop where
 | last (c : List X) (h : Sd txt c) (hl : c.length ≤ k) : Bk k c
 | cons (c r : List X) (h : Sd txt c) (hl : c.length = k) (hr : Bk k r) : Bk k (c ++ r)
theorem Bk.take {k : Nat} {Q : List X} (h : Bk k Q) (hk : k ≤ Q.length) : ∃ c r,Q = c ++ r ∧ c.length = k ∧ Sd txt c ∧ Bk k r := by
 cases h with
 | last c h hl => exact ⟨Q,[],by simp,by omega,h,.last [] List.Pairwise.nil (by simp)⟩
 | cons c r h hl hr => exact ⟨c,r,rfl,hl,h,hr⟩
theorem Bk.sd {k : Nat} {Q : List X} (h : Bk k Q) (hk : Q.length ≤ k) : Sd txt Q := by
 cases h with
 | last c h hl => exact h
 | cons c r h hl hr =>
  have : r = [] := List.length_eq_zero_iff.1 (by simp at hk; omega)
  subst this
  simpa using h
theorem St.wf {l l' : List X} (h : St txt l l') (hw : ∀ z ∈ l,Wf z) : ∀ z ∈ l',Wf z := fun z hz => hw z ((h.mem z).1 hz)
theorem Qna {H : Qa} {i ver N : Nat} {rest : List V} (hi : i < H.length) (hN : N ≤ 1000000000000) {l : List X} (hw : ∀ z ∈ l,Wf z) : ∀ (n : Nat) (P Q : List X),Q.length ≤ n → (∀ T,Bk 20 T → Bk 20 (P ++ T)) → St txt l (P ++ Q) → (P ++ Q).length = N →
  ∃ L,Bk 20 L ∧ St txt l L ∧ Ea H.length (.rs i ver 6 0 N) (.int .i64 (N : Int)) FC (.int .i64 20) (.int .i64 (P.length : Int)) (.int .i64 ((P.length + 20 : Nat) : Int)) (RH H i ver rest (P ++ Q)) =
   Ui H.length (.rs i ver 6 0 N) (.int .i64 (N : Int)) FC (.int .i64 20) (RH H i ver rest L) := by
 intro n
 induction n with
 | zero =>
  intro P Q hn hB hS hl
  have : Q = [] := List.length_eq_zero_iff.1 (by omega)
  subst this
  have hNs : P.length = N := by rw [← hl]; simp
  have h' : ¬ ((P.length + 20 : Nat) : Int) ≤ (N : Int) := by omega
  obtain ⟨M,m1,m2,m3⟩ := Cn (ver := ver) (rest := rest) hi hN (L0 := P) (M := []) (L1 := []) (by simp) (by simpa using hl)
  have hM : M = [] := List.length_eq_zero_iff.1 m2.1
  subst hM
  refine ⟨P ++ [],hB [] (.last [] List.Pairwise.nil (by simp)),hS,?_⟩
  have e : P.length + ([] : List X).length = N := by simpa using hNs
  rw [e] at m3
  simp only [List.append_nil] at m3 ⊢
  rw [L4]
  simp only [Qah,Qab,Qbc,Qdx,Qee,decide_false,h',m3]
 | succ n ih =>
  intro P Q hn hB hS hl
  have hwQ := St.wf hS hw
  have hNs : P.length + Q.length = N := by rw [← hl]; simp
  by_cases hle : P.length + 20 ≤ N
  ·have h' : ((P.length + 20 : Nat) : Int) ≤ (N : Int) := by omega
   obtain ⟨C,Q',rfl,hC⟩ : ∃ C Q',Q = C ++ Q' ∧ C.length = 20 := ⟨Q.take 20,Q.drop 20,by simp,by simp; omega⟩
   have hQl : (C ++ Q').length = 20 + Q'.length := by simp [hC]
   obtain ⟨M,m1,m2,m3⟩ := Cn (ver := ver) (rest := rest) hi hN (L0 := P) (M := C) (L1 := Q') (fun z hz => hwQ z (by simp [hz])) (by rw [← hl]; simp)
   have hMl : M.length = 20 := by rw [m2.1,hC]
   obtain ⟨L,k1,k2,k3⟩ := ih (P ++ M) Q' (by omega) (fun T hT => by rw [List.append_assoc]; exact hB _ (.cons M T m1 hMl hT)) (hS.trans (by
     have := ((St.refl (key := txt) P).append m2).append (St.refl Q')
     simpa using this)) (by rw [← hl]; simp [hMl,hC])
   refine ⟨L,k1,k2,?_⟩
   have w1 : IntKind.i64.wrap (((P.length + 20 : Nat) : Int) + 20) = ((P.length + 20 + 20 : Nat) : Int) := ZH (by omega) (by omega)
   have e1 : (P ++ M).length = P.length + 20 := by simp [hMl]
   rw [hC] at m3
   rw [e1] at k3
   have e2 : P ++ (C ++ Q') = P ++ C ++ Q' := by simp
   rw [e2,L4]
   simp only [Qah,Qab,Qbd,Qdx,Qee,decide_true,h',m3,w1]
   exact k3
  ·have h' : ¬ ((P.length + 20 : Nat) : Int) ≤ (N : Int) := by omega
   obtain ⟨M,m1,m2,m3⟩ := Cn (ver := ver) (rest := rest) hi hN (L0 := P) (M := Q) (L1 := []) (fun z hz => hwQ z (by simp [hz])) (by simpa using hl)
   refine ⟨P ++ M,hB M (.last M m1 (by rw [m2.1]; omega)),hS.trans ((St.refl P).append m2),?_⟩
   rw [hNs] at m3
   simp only [List.append_nil] at m3
   rw [L4]
   simp only [Qah,Qab,Qbc,Qdx,Qee,decide_false,h',m3]
theorem QiL {H : Qa} {i ver N : Nat} {rest : List V} (hi : i < H.length) (hN : N ≤ 1000000000000) {l : List X} (hw : ∀ z ∈ l,Wf z) {k : Nat} (hk : 1 ≤ k) (hkN : k ≤ N) : ∀ (n : Nat) (P Q : List X),Q.length ≤ n → (∀ T,Bk (2 * k) T → Bk (2 * k) (P ++ T)) → Bk k Q → St txt l (P ++ Q) → (P ++ Q).length = N →
  ∃ L,Bk (2 * k) L ∧ St txt l L ∧ Fw H.length (.rs i ver 6 0 N) (.int .i64 (N : Int)) FC (.int .i64 (k : Int)) (.int .i64 (P.length : Int)) (.int .i64 ((P.length + 2 * k : Nat) : Int)) (RH H i ver rest (P ++ Q)) =
   Ui H.length (.rs i ver 6 0 N) (.int .i64 (N : Int)) FC (.int .i64 ((2 * k : Nat) : Int)) (RH H i ver rest L) := by
 intro n
 induction n with
 | zero =>
  intro P Q hn hB hQ hS hl
  have : Q = [] := List.length_eq_zero_iff.1 (by omega)
  subst this
  have hNs : P.length = N := by rw [← hl]; simp
  have h' : ¬ ((P.length + 2 * k : Nat) : Int) ≤ (N : Int) := by omega
  have w1 : IntKind.i64.wrap ((P.length : Int) + (k : Int)) = ((P.length + k : Nat) : Int) := ZH (by omega) (by omega)
  have w2 : IntKind.i64.wrap ((k : Int) * 2) = ((2 * k : Nat) : Int) := ZH (by omega) (by omega)
  have h2 : ¬ ((P.length + k : Nat) : Int) < (N : Int) := by omega
  refine ⟨P ++ [],hB [] (.last [] List.Pairwise.nil (by simp)),hS,?_⟩
  rw [FE]
  simp only [Qah,Qbc,Qdx,Qeg,Qef,Qee,decide_false,List.append_nil,h',w1,h2]
  rw [XA]
  simp only [Qah,Qeg,w2]
 | succ n ih =>
  intro P Q hn hB hQ hS hl
  have hwQ := St.wf hS hw
  have hNs : P.length + Q.length = N := by rw [← hl]; simp
  have w1 : IntKind.i64.wrap ((P.length : Int) + (k : Int)) = ((P.length + k : Nat) : Int) := ZH (by omega) (by omega)
  have w2 : IntKind.i64.wrap ((k : Int) * 2) = ((2 * k : Nat) : Int) := ZH (by omega) (by omega)
  have j4 : ∀ G,Po H.length (.rs i ver 6 0 N) (.int .i64 (N : Int)) FC (.int .i64 (k : Int)) G = Ui H.length (.rs i ver 6 0 N) (.int .i64 (N : Int)) FC (.int .i64 ((2 * k : Nat) : Int)) G := fun G => by
   rw [XA]; simp only [Qah,Qeg,w2]
  by_cases hle : P.length + 2 * k ≤ N
  ·have h' : ((P.length + 2 * k : Nat) : Int) ≤ (N : Int) := by omega
   obtain ⟨c,r,rfl,hc,sc,hr⟩ := hQ.take (by omega)
   have hcl : (c ++ r).length = c.length + r.length := by simp
   obtain ⟨d,r,rfl,hd,sd,hr⟩ := hr.take (by omega)
   have hdl : (d ++ r).length = d.length + r.length := by simp
   obtain ⟨M,m1,m2,m3⟩ := QbM (ver := ver) (rest := rest) hi hN (c.length + d.length) P c d r (Nat.le_refl _) (by rintro rfl; simp at hc; omega) (by rintro rfl; simp at hd; omega) sc sd (fun z hz => hwQ z (by simp at hz ⊢; rcases hz with h | h <;> simp [h])) (by rw [← hl]; simp)
   have hMl : M.length = 2 * k := by rw [m2.1]; simp; omega
   obtain ⟨L,k1,k2,k3⟩ := ih (P ++ M) r (by omega) (fun T hT => by rw [List.append_assoc]; exact hB _ (.cons M T m1 hMl hT)) hr (hS.trans (by
     have := ((St.refl (key := txt) P).append m2).append (St.refl r)
     simpa using this)) (by rw [← hl]; simp [hMl]; omega)
   refine ⟨L,k1,k2,?_⟩
   have w3 : IntKind.i64.wrap (2 * (k : Int)) = ((2 * k : Nat) : Int) := ZH (by omega) (by omega)
   have w4 : IntKind.i64.wrap (((P.length + 2 * k : Nat) : Int) + ((2 * k : Nat) : Int)) = ((P.length + 2 * k + 2 * k : Nat) : Int) := ZH (by omega) (by omega)
   have e1 : (P ++ M).length = P.length + 2 * k := by simp [hMl]
   have e3 : P.length + k + d.length = P.length + 2 * k := by omega
   rw [hc,e3] at m3
   rw [e1] at k3
   have e2 : P ++ (c ++ (d ++ r)) = P ++ c ++ d ++ r := by simp
   rw [e2,FE]
   simp only [Qah,Qab,Qbd,Qdx,Qeg,Qef,Qee,decide_true,h',w1,m3,w3,w4]
   exact k3
  ·have h' : ¬ ((P.length + 2 * k : Nat) : Int) ≤ (N : Int) := by omega
   by_cases hm : P.length + k < N
   ·have h2 : ((P.length + k : Nat) : Int) < (N : Int) := by omega
    obtain ⟨c,r,rfl,hc,sc,hr⟩ := hQ.take (by omega)
    have hcl : (c ++ r).length = c.length + r.length := by simp
    have sr := hr.sd (by omega)
    obtain ⟨M,m1,m2,m3⟩ := QbM (ver := ver) (rest := rest) hi hN (c.length + r.length) P c r [] (Nat.le_refl _) (by rintro rfl; simp at hc; omega) (by intro e; have h0 := congrArg List.length e; simp only [List.length_nil] at h0; omega) sc sr (fun z hz => hwQ z (by simp at hz ⊢; rcases hz with h | h <;> simp [h])) (by rw [← hl]; simp)
    have hMl : M.length = c.length + r.length := by rw [m2.1]; simp
    refine ⟨P ++ M,hB M (.last M m1 (by omega)),hS.trans ((St.refl P).append m2),?_⟩
    have e3 : P.length + k + r.length = N := by omega
    rw [hc,e3] at m3
    simp only [List.append_nil] at m3
    have e2 : P ++ (c ++ r) = P ++ c ++ r := by simp
    rw [e2,FE]
    simp only [Qah,Qab,Qbd,Qbc,Qdx,Qeg,Qef,Qee,decide_true,decide_false,h',w1,h2,m3,j4]
   ·have h2 : ¬ ((P.length + k : Nat) : Int) < (N : Int) := by omega
    have sQ := hQ.sd (by omega)
    refine ⟨P ++ Q,hB Q (.last Q sQ (by omega)),hS,?_⟩
    rw [FE]
    simp only [Qah,Qbc,Qdx,Qeg,Qef,Qee,decide_false,h',w1,h2,j4]
theorem QpS {H : Qa} {i ver N : Nat} {rest : List V} (hi : i < H.length) (hN : N ≤ 1000000000000) {l : List X} (hw : ∀ z ∈ l,Wf z) : ∀ (n k : Nat),1 ≤ k → N - k ≤ n → ∀ L,Bk k L → St txt l L → L.length = N →
  ∃ M,Sd txt M ∧ St txt l M ∧ Ui H.length (.rs i ver 6 0 N) (.int .i64 (N : Int)) FC (.int .i64 (k : Int)) (RH H i ver rest L) = some (.ret (.tup []),RH H i ver rest M) := by
 intro n
 induction n with
 | zero =>
  intro k hk hn L hB hS hl
  have h' : ¬ (k : Int) < (N : Int) := by omega
  refine ⟨L,hB.sd (by omega),hS,?_⟩
  rw [Pu]
  simp only [Qah,Qbc,Qeg,Qef,Qgk,Qcs,decide_false,h']
 | succ n ih =>
  intro k hk hn L hB hS hl
  by_cases hkN : k < N
  ·have h' : (k : Int) < (N : Int) := by omega
   obtain ⟨L',k1,k2,k3⟩ := QiL (ver := ver) (rest := rest) hi hN hw hk (by omega) L.length [] L (Nat.le_refl _) (fun T hT => hT) hB hS hl
   obtain ⟨M,m1,m2,m3⟩ := ih (2 * k) (by omega) (by omega) L' k1 k2 (by rw [k2.1,← hS.1]; exact hl)
   refine ⟨M,m1,m2,?_⟩
   have w3 : IntKind.i64.wrap (2 * (k : Int)) = ((2 * k : Nat) : Int) := ZH (by omega) (by omega)
   rw [m3] at k3
   simp only [List.nil_append,List.length_nil,Nat.zero_add,Qam] at k3
   rw [Pu]
   simp only [Qah,Qbd,Qeg,Qef,Qgk,Qcs,decide_true,h',w3]
   exact k3
  ·have h' : ¬ (k : Int) < (N : Int) := by omega
   refine ⟨L,hB.sd (by omega),hS,?_⟩
   rw [Pu]
   simp only [Qah,Qbc,Qeg,Qef,Qgk,Qcs,decide_false,h']
theorem Qnq {H : Qa} {i ver : Nat} {rest : List V} (hi : i < H.length) {l : List X} (hN : l.length ≤ 1000000000000) (hw : ∀ z ∈ l,Wf z) (hg : Qh H i = some (Q9 ver l rest)) :
  ∃ M,Sd txt M ∧ St txt l M ∧ E PP [.rs i ver 6 0 l.length,FC] H = some (.ret (.tup []),RH H i ver rest M) := by
 obtain ⟨L,k1,k2,k3⟩ := Qna (ver := ver) (rest := rest) hi hN hw l.length [] l (Nat.le_refl _) (fun T hT => hT) (St.refl l) rfl
 obtain ⟨M,m1,m2,m3⟩ := QpS (ver := ver) (rest := rest) hi hN hw l.length 20 (by omega) (by omega) L k1 k2 k2.1
 refine ⟨M,m1,m2,?_⟩
 have hH : RH H i ver rest ([] ++ l) = H := Va hg
 rw [hH] at k3
 simp only [List.length_nil,Nat.zero_add,Qam] at k3 m3
 rw [Qg4,Xv]
 simp only [Qah,Qab,Qfb,Qgk,Qcs,QeQ,XM,k3,m3]
theorem Qp7 (H : Qa) : E PP [.nils,FC] H = some (.ret (.tup []),H) := by
 have w1 : IntKind.i64.wrap 1 = 1 := by decide
 have n1 : ¬ (20 : Int) ≤ 0 := by decide
 have n2 : ¬ (1 : Int) < 0 := by decide
 have n3 : ¬ (20 : Int) < 0 := by decide
 have ins : E Nh [.nils,.int .i64 0,.int .i64 0,FC] H = some (.ret (.tup []),H) := by
  rw [AP,AT]
  simp only [Qah,Qdx,Int.reduceAdd,w1]
  rw [Qrf]
  simp only [Qah,Qbc,Qef,Qcx,Qgk,decide_false,n2]
 rw [Qg4,Xv]
 simp only [Qah,Qfa,Qgk,QeQ,XM]
 rw [L4]
 simp only [Qah,Qab,Qbc,Qdx,Qee,decide_false,Int.reduceAdd,n1,ins]
 rw [Pu]
 simp only [Qah,Qab,Qbc,Qeg,Qef,Qcx,Qgk,decide_false,n3]
end Go.Proofs.YtdnmpaielmfiiaaDoor
end
