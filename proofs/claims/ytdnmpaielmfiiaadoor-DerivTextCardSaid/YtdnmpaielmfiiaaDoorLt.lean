/- Lt: a part of the proof that each law of this seat answers true at every input. No condition. -/
import Derived.Test.YtdnmpaielmfiiaaDoorLd
import Derived.Test.YtdnmpaielmfiiaaDoorFnT
set_option linter.unusedVariables false
set_option linter.unusedSimpArgs false
set_option maxRecDepth 20000
section
namespace Go.Proofs.YtdnmpaielmfiiaaDoor
open Go Go.Ev Go.X7 Go.Srt
set_option maxRecDepth 20000
def QrV : S4 := ⟨18446744073709551615,18446744073709551615,18446744073709551615,18446744073709551615⟩
theorem Qtk : S4.rng QrV 0 255 := ⟨by decide,by decide +kernel⟩
abbrev Qrw : X := .mk 2 QrV []
abbrev Qrm : X := .mk 5 S4.zero [Qrw]
theorem Qtj : Rt Qrw := TT (by decide)
theorem QtF : Rt Qrm := QmQ Qtj
theorem QtG : Qrw.ok := ⟨by decide,trivial⟩
theorem Qtr : Qrm.ok := ⟨S4.zero_ok,QtG,trivial⟩
theorem QtX (G : Qa) : E WI [.agg [.int .i64 2,.int .u64 18446744073709551615,.int .u64 18446744073709551615,.int .u64 18446744073709551615,.int .u64 18446744073709551615,.nils]] G = some (.ret (Qd Qrm),G) := by
 have n20 : ¬ (2 : Int) = 0 := by decide
 have n21 : ¬ (2 : Int) = 1 := by decide
 have n25 : ¬ (2 : Int) = 5 := by decide
 have lt : ∀ z,Zq 6 1 z [(0,.agg [.int .i64 2,.int .u64 18446744073709551615,.int .u64 18446744073709551615,.int .u64 18446744073709551615,.int .u64 18446744073709551615,.nils])] = some (.vs [Qd Qrw]) := fun z => by
  rw [WA]; rfl
 have b := bXv 5 [Qd Qrw]
 have q := Qbl G.length Qrm
 have e5 : Qd Qrm = .agg [.int .i64 5,.int .u64 0,.int .u64 0,.int .u64 0,.int .u64 0,.vs [Qd Qrw]] := rfl
 have eA : Qd Qrw = .agg [.int .i64 2,.int .u64 18446744073709551615,.int .u64 18446744073709551615,.int .u64 18446744073709551615,.int .u64 18446744073709551615,.vs []] := rfl
 rw [e5] at q ⊢
 rw [eA] at q b lt ⊢
 rw [QhA,XC]
 simp only [Qah,Qag,Qbc,Qet,Qeb,Qcx,Qcz,Qhj,Qan,Qgo,Qgn,Qgs,Qgy,Qdi,Qdt,Qde,Qdd,Qdc,Qhh,Qhf,Qcr,Qck,Qcj,Qcn,Qfv,Qhi,Qem,Qgb,Qga,Qbe,Qbx,Qca,Qbt,Qdb,Qda,decide_false,if_true,List.drop_zero,List.drop_succ_cons,List.length_cons,List.length_nil,Nat.add_zero,Nat.zero_add,Option.bind_some,Option.map_some,Bool.and_true,List.append_nil,Nat.reduceAdd,Qj,Qz,List.drop_nil,Qu,Nat.le_refl,Nat.lt_add_one,Nat.zero_le,true_or,and_true,and_self,Nat.max_self,List.take_zero,List.take_succ_cons,n20,n21,n25]
 rw [Tg]
 simp only [Qah,Qag,Qcx,Qcz,Qan,Qgo,Qgn,Qgs,Qhc,Qhh,Qhf,Qcr,Qck,Qcj,Qcn,Qhi,if_true,List.drop_zero,List.drop_succ_cons,List.length_cons,List.length_nil,Nat.zero_add,Bool.and_true,List.append_nil,Nat.reduceAdd,Qj,Qz,List.drop_nil,Qu,Nat.le_refl,Nat.lt_add_one,true_or,and_true,and_self,List.take_zero,List.take_succ_cons,lt,b,q]
theorem QsT {L : List Int} (hL : ∀ n ∈ L,0 ≤ n ∧ n ≤ 255) (hl : L.length ≤ 9223372036854775807) {t : List UInt8} (ht : t.length ≤ 6) : Qr6 0 (.vs (L.map (V.int .u8))) (.str t) [] = some (.ret (.bool true),[]) := by
 have aw := fun G => D7 G
 obtain ⟨x,hx,mk⟩ := Cu hL hl []
 have o1 := fun G => Qsa Qtk G
 have bA := bXs 2 QrV
 have sA := fun G => QtX G
 have l2 := fun z => QiB z x Qrm
 have hr : ∀ y ∈ [x,Qrm],Rt y := fun y hy => by
  simp only [List.mem_cons,List.not_mem_nil,or_false] at hy
  rcases hy with rfl | rfl
  ·exact hx.rt
  ·exact QtF
 have hok : ∀ y ∈ [x,Qrm],y.ok := fun y hy => by
  simp only [List.mem_cons,List.not_mem_nil,or_false] at hy
  rcases hy with rfl | rfl
  ·exact hx.ok
  ·exact Qtr
 have hsz := hx.size
 have ca := fun G => Ni (H := G) (Sl.vs [x,Qrm]) (by simp only [Qk,X.size]; omega)
 have hm : Fin 6 (mX (Q8 [x,Qrm])) := by
  refine Fin.mono (m := 6) (N := 7) (by omega) ((CZ (by simp) hr 7).trans ?_) Qtc
  show Me.le 7 ((mX x).cat ((mX Qrm).cat Me.e)) _
  rw [Me.cat_e]
  exact Me.cat_le (Qh4 hx.me) (Me.le.refl _ _)
 have hf : Fin t.length (mX (Q8 [x,Qrm])) := by
  obtain ⟨j,hj⟩ : ∃ j,6 = t.length + j := ⟨6 - t.length,by omega⟩
  rw [hj] at hm
  exact Fin.lessN hm
 have rc := Aq hr
 have oc := Mm hok
 obtain ⟨b,_,m1,m2⟩ := QsZ rc oc (t := t) (by omega) hf
 generalize hc : Q8 [x,Qrm] = c at ca m1 m2 rc oc hf hm
 have s0 : Qs 0 6 [zB] (.ptr 0 0 0) (Qd c) = some (.tup [],[.var (Qd c).cells]) := PK (H := []) (cs := zX) (by simp) (y := c)
 have ld := DF (H := []) (x := c)
 simp only [List.length_nil] at ld
 have eA : QrV.cs = [.int .u64 18446744073709551615,.int .u64 18446744073709551615,.int .u64 18446744073709551615,.int .u64 18446744073709551615] := rfl
 have bA' : Zj zX [(0,1),(1,4),(5,1)] [(0,.int .i64 2),(1,.agg [.int .u64 18446744073709551615,.int .u64 18446744073709551615,.int .u64 18446744073709551615,.int .u64 18446744073709551615])] = some (.agg [.int .i64 2,.int .u64 18446744073709551615,.int .u64 18446744073709551615,.int .u64 18446744073709551615,.int .u64 18446744073709551615,.nils]) := bA
 simp only [encS,eA] at o1
 generalize Qrm = y at sA l2 ca
 rw [Qt5]
 simp only [Qah,Qag,Qab,Qci,Qhd,Qgm,Qfm,Qfr,Qdz,Qgc,Qan,Qgo,Qgn,Qgs,Qgy,Qcr,Qfv,List.length_nil,Bool.and_true,beq_self_eq_true,Nat.le_refl,aw,mk,o1,bA',sA,l2,ca,s0,ld,m1,m2]
 cases b <;> rfl
theorem QtZ {L : List Int} (hL : ∀ n ∈ L,0 ≤ n ∧ n ≤ 255) (hl : L.length ≤ 9223372036854775807) (t : List UInt8) (ht : t.length ≤ 9223372036854775807) : E Qs5 [.vs (L.map (V.int .u8)),.str t] [] = some (.ret (.bool true),[]) := by
 have j1 : ∀ t : List UInt8,t.length ≤ 6 → QrT 0 (.vs (L.map (V.int .u8))) (.str t) [] = some (.ret (.bool true),[]) := fun t ht => by
  have k := QsT hL hl ht
  rw [QtO]
  by_cases h : (100 : Int) < (L.length : Int)
  ·have k2 := QsT (L := L.take 100) (fun n hn => hL n (List.mem_of_mem_take hn)) (by simp; omega) ht
   have sl : JO 1 (.vs (L.map (V.int .u8))) none (some (.int .i64 100)) none = some (.vs ((L.take 100).map (V.int .u8))) := by
    rw [UI]
    have h1 : 100 ≤ L.length := by omega
    have h2 : (100 : Int) ≤ (L.length : Int) := by omega
    simp [Vk,QW,List.map_take,h1,h2]
    cases L <;> rfl
   simp only [Qah,Qbd,Qfc,Qed,decide_true,List.length_map,h,sl,k2]
  ·simp only [Qah,Qbc,Qfc,Qed,decide_false,List.length_map,h,k]
 rw [QtN,QtY]
 by_cases h : (6 : Int) < (t.length : Int)
 ·have sl := QbW (s := t) (k := .i64) (n := 6) (by omega) (by omega)
  have k2 := j1 (t.take (6 : Int).toNat) (by simp; omega)
  simp only [Qah,Qbd,Qfd,Qed,decide_true,List.length_nil,h,sl,k2]
 ·have k := j1 t (by omega)
  simp only [Qah,Qbc,Qfd,Qed,decide_false,List.length_nil,h,k]
end Go.Proofs.YtdnmpaielmfiiaaDoor
end
