/- Tf: a part of the proof that each law of this seat answers true at every input. No condition. -/
import Derived.Test.YtdnmpaielmfiiaaDoorTe
import Derived.Test.YtdnmpaielmfiiaaDoorXc
set_option linter.unusedVariables false
set_option linter.unusedSimpArgs false
set_option maxRecDepth 20000
section
namespace Go.Proofs.YtdnmpaielmfiiaaDoor
open Go Go.Ev Go.X7 Go.Srt
set_option maxRecDepth 20000
abbrev bL (l : List Bool) : List V := l.map V.bool
abbrev Qrn (l : List Bool) : Blk := .row 0 1 false (bL l)
theorem Qua (l : List Bool) : flat (bL l) = bL l := by
 induction l with
 | nil => rfl
 | cons b l ih => show [V.bool b] ++ flat (bL l) = _; rw [ih]; rfl
theorem Qtb (l : List Bool) : Yz 1 (bL l) = true := by
 induction l with
 | nil => rfl
 | cons b l ih => show ((V.bool b).cells.length == 1 && Yz 1 (bL l)) = true; rw [ih]; rfl
theorem QsR (l : List Bool) : Qv (bL l) = true := by
 induction l with
 | nil => rfl
 | cons b l ih => show ((V.bool b).scal && Qv (bL l)) = true; rw [ih]; rfl
theorem QtJ (l : List Bool) : QX (bL l) = 0 := by
 induction l with
 | nil => rfl
 | cons b l ih => show max (V.bool b).maxRef (QX (bL l)) = 0; rw [ih]; rfl
inductive AtV (G : Qa) : V → List Bool → Prop
 | vs (l : List Bool) : AtV G (.vs (bL l)) l
 | rs (i : Nat) (l : List Bool) (h : Qh G i = some (Qrn l)) : AtV G (.rs i 0 1 0 l.length) l
theorem AtV.up {H G : Qa} {v : V} {l : List Bool} (h : AtV H v l) (hU : Up H G) : AtV G v l := by
 cases h with
 | vs l => exact .vs l
 | rs i l h => exact .rs i l (by rw [hU.get (Q4 h)]; exact h)
theorem AtV.load {G : Qa} {v : V} {l : List Bool} (h : AtV G v l) {j : Nat} (hj : j < l.length) : ∃ p,Qx 1 v (.int .i64 (j : Int)) = some p ∧ Qc false 1 G p = some (.bool l[j]) := by
 cases h with
 | vs l => exact ⟨.fptr [.bool l[j]],GZ (y := .bool l[j]) (by simp [hj]) rfl,by rw [Qfh]; rfl⟩
 | rs i l h =>
  refine ⟨_,V5 hj,?_⟩
  rw [Qj,h,Qcy,Nat.zero_add,Nat.mul_one,List.drop_eq_getElem_cons (by simpa using hj)]
  simp
theorem AtV.copy {G : Qa} {v : V} {l o : List Bool} {t O : Nat} (h : AtV G v l) (hg : Qh G t = some (Qrn o)) (hl : o.length = l.length) (hb : O ≤ t) (h0 : 0 < l.length) :
  Qd7 O 1 (.rs t 0 1 0 l.length) v G = some (.int .i64 (l.length : Int),Qn G t (Qrn l)) := by
 have hfit : fits O t 0 = true := by simp [fits,hb]
 have hc : ZM 1 G v = some (bL l) ∧ ZB v = some l.length := by
  cases h with
  | vs l => exact ⟨by simp only [ZM,Qtb,if_true,Qua],by simp [ZB]⟩
  | rs i l h => exact ⟨by simp [ZM,h,List.take_of_length_le],rfl⟩
 have hsp : splice (bL o) 0 (bL l) = bL l := by simp [splice,hl]
 have htk : (bL l).take (l.length * 1) = bL l := List.take_of_length_le (by simp)
 have hm : min l.length l.length = l.length := Nat.min_self _
 have hne : ¬ l.length = 0 := by omega
 have hlen : (bL l).length ≤ (bL o).length := by simp [hl]
 rw [PZ]
 simp only [EA,hc.1,hc.2,Option.bind_some,copyV,if_true,hm,hne,if_false,VT,htk,QsR,QtJ,hfit,and_self,hg,Nat.zero_mul,Nat.zero_add,hlen,hsp,Option.map_some]
abbrev mk (l : List Bool) (i : Nat) : Prop := l[i]? = some true
theorem Qrl.same {P : Bs → Prop} {s : Bs} {a b : Nat → Prop} {j : Nat} (hj : j ≤ s.length) (h : ∀ i,i ≤ s.length → (a i ↔ b i)) : Qrl P s a j ↔ Qrl P s b j := by
 unfold Qrl
 refine exists_congr fun i => and_congr_right fun hi => ?_
 rw [h i (by omega)]
end Go.Proofs.YtdnmpaielmfiiaaDoor
end
