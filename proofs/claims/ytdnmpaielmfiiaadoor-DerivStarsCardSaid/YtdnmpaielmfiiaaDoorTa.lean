/- Ta: a part of the proof that each law of this seat answers true at every input. No condition. -/
import Derived.Test.YtdnmpaielmfiiaaDoorHint
import Derived.Test.YtdnmpaielmfiiaaDoorFns
import Derived.Test.YtdnmpaielmfiiaaDoorEvH
import Derived.Test.YtdnmpaielmfiiaaDoorXa
set_option linter.unusedVariables false
set_option linter.unusedSimpArgs false
set_option maxRecDepth 20000
section
namespace Go.Proofs.YtdnmpaielmfiiaaDoor
open Go Go.Ev Go.X7
set_option maxRecDepth 20000
theorem CM (s : S4) (H : Qa) {j : Nat} (h : j < 4) : ZJ false 1 (List.drop j s.cs) = some (.int .u64 (s.w j)) := by
 match j,h with
 | 0,_ => rfl
 | 1,_ => rfl
 | 2,_ => rfl
 | 3,_ => rfl
theorem Qi2 (s : S4) {j x : Nat} (h : j < 4) : splice s.cs j [.int .u64 (x : Int)] = (s.setW j x).cs := by
 match j,h with
 | 0,_ => rfl
 | 1,_ => rfl
 | 2,_ => rfl
 | 3,_ => rfl
theorem Dp (b : Nat) (h : b < 256) : Qb .quo 6 (.int .i64 (b : Int)) (.int .i64 64) = some (.int .i64 ((b / 64 : Nat) : Int)) := by
 rw [Da _ _ _ _ (by decide),Int.tdiv_eq_ediv_of_nonneg (by omega),wrap_i64 (by omega) (by omega)]
 norm_cast
theorem CK (b : Nat) (h : b < 256) : Qb .rem 6 (.int .i64 (b : Int)) (.int .i64 64) = some (.int .i64 ((b % 64 : Nat) : Int)) := by
 rw [Bq _ _ _ _ (by decide),Int.tmod_eq_emod_of_nonneg (by omega)]
 norm_cast
theorem WS {s : S4} (hs : s.ok) {b : Nat} (hb : b < 256) (H : Qa) : E Vy [encS s,.int .i64 (b : Int)] H = some (.ret (.bool (s.has b)),H) := by
 rw [Xe,Ey]
 have h0 : (0 : Int) ≤ (b : Int) := by omega
 have h1 : (b : Int) < 256 := by omega
 have hj : b / 64 < 4 := by omega
 have hm : b % 64 < 64 := Nat.mod_lt _ (by omega)
 have hw := S4.w_lt hs (b / 64)
 have hw2 : s.w (b / 64) / 2 ^ (b % 64) < 18446744073709551616 := Nat.lt_of_le_of_lt (Nat.div_le_self _ _) hw
 have e : decide (((s.w (b / 64) / 2 ^ (b % 64) % 2 : Nat) : Int) = 1) = s.has b := by
  unfold S4.has
  rw [Nat.testBit_eq_decide_div_mod_eq]
  rw [Bool.eq_iff_iff]; simp only [decide_eq_true_eq]; omega
 simp (maxDischargeDepth := 9) only [Qah,Qag,Qci,Qfm,Qfr,Qeb,Qef,Qec,Qcx,Qcz,Qgc,Qan,Qgo,Qgn,Qgs,Qcr,Qcj,Qfv,decide_true,Nat.zero_add,Bool.and_true,Qj,Nat.le_refl,h0,h1,Dp b hb,CK b hb,UV hj,Nat.mul_one,CM s H hj,QmW hm,QoW hw2,e]
theorem Qhz {s : S4} (hs : s.ok) {b : Nat} (hb : b < 256) (H : Qa) : E Eg [encS s,.int .i64 (b : Int)] H = some (.ret (encS (s.put b)),H) := by
 rw [QjF,Qq3]
 have hj : b / 64 < 4 := by omega
 have hm : b % 64 < 64 := Nat.mod_lt _ (by omega)
 have hw := S4.w_lt hs (b / 64)
 have hj2 : b / 64 + 1 ≤ 4 := by omega
 simp (maxDischargeDepth := 9) only [Qah,Qag,Qcx,Qcz,Qar,Qan,Qgo,Qgn,Qgs,Qdi,Qde,Qdd,Qdc,Qhh,Qhf,Qcr,Qck,Qco,Qcj,Qcn,Qfv,Qhi,Qgb,Qga,Qbe,Qbx,Qbt,Qdb,Qda,if_true,List.drop_zero,List.drop_succ_cons,List.length_cons,List.length_nil,Nat.zero_add,Option.bind_some,Option.map_some,Bool.and_true,List.append_nil,Nat.reduceAdd,Qj,Qz,List.drop_nil,Qu,Nat.le_refl,Nat.lt_add_one,Nat.zero_le,or_true,true_or,and_true,and_self,Nat.max_self,List.take_zero,List.take_succ_cons,Dp b hb,CK b hb,UV hj,Nat.mul_one,CM s H hj,QgG hm,MJ hw (P0 hm),Qi2 s hj,hj2]
 rfl
def tbl (n f s b x y : Bool) : Bool := (!x && !y && n) || (x && !y && f) || (!x && y && s) || (x && y && b)
set_option maxHeartbeats 2000000 in
theorem EQ {s t : S4} (hs : s.ok) (ht : t.ok) {H : Qa} : ∀ (m k : Nat),256 - k = m → k ≤ 256 → ∀ r : S4,r.ok → (∀ i,i < 256 → r.has i = (decide (i < k) && tbl false true true true (s.has i) (t.has i))) →
  ∃ r' : S4,r'.ok ∧ (∀ i,i < 256 → r'.has i = tbl false true true true (s.has i) (t.has i)) ∧
  BA H.length (.bool false) (.bool true) (.bool true) (.bool true) (.ptr H.length 0 0) (.ptr (H.length + 1) 0 0) (.ptr (H.length + 2) 0 0) (.ptr (H.length + 3) 0 0) (.int .i64 (k : Int)) (.var r.cs :: .var S4.zero.cs :: .var t.cs :: .var s.cs :: H) = some (.ret (encS r'),H)
 | m,k,hm,hk,r,hr,hp => by
  rw [QmJ]
  by_cases h : k < 256
  ·have h' : (k : Int) < 256 := by omega
   obtain ⟨m,rfl⟩ : ∃ j,m = j + 1 := ⟨m - 1,by omega⟩
   have w1 : IntKind.i64.wrap ((k : Int) + 1) = ((k + 1 : Nat) : Int) := by rw [wrap_i64 (by omega) (by omega)]; omega
   cases hq : tbl false true true true (s.has k) (t.has k) with
   | true =>
    obtain ⟨r',q1,q2,ih⟩ := EQ hs ht (H := H) m (k + 1) (by omega) (by omega) (r.put k) (S4.put_ok hr k) (fun i hi => by
     rw [S4.put_has r h hi,hp i hi]
     by_cases e : i = k
     ·subst e; simp [hq]
     ·have : (i < k + 1) ↔ i < k := by omega
      simp [e,this])
    refine ⟨r',q1,q2,?_⟩
    have hw := fun H => Qhz hr h H
    have j2 : ∀ G,NN H.length (.bool false) (.bool true) (.bool true) (.bool true) (.ptr H.length 0 0) (.ptr (H.length + 1) 0 0) (.ptr (H.length + 2) 0 0) (.ptr (H.length + 3) 0 0) (.int .i64 (k : Int)) G = BA H.length (.bool false) (.bool true) (.bool true) (.bool true) (.ptr H.length 0 0) (.ptr (H.length + 1) 0 0) (.ptr (H.length + 2) 0 0) (.ptr (H.length + 3) 0 0) (.int .i64 ((k + 1 : Nat) : Int)) G := fun G => by
     rw [XS]; simp (maxDischargeDepth := 9) only [Qah,Qdx,w1]
    cases hx : s.has k <;> cases hy : t.has k <;> simp only [hx,hy,tbl,Bool.not_true,Bool.not_false,Bool.and_true,Bool.and_false,Bool.true_and,Bool.false_and,Bool.or_false,Bool.or_true,Bool.false_or,Bool.true_or,Bool.false_eq_true] at hq <;>
     simp (maxDischargeDepth := 9) only [Qah,Qag,Qab,Qbd,Qci,Qcg,Qcf,Qch,Qhd,Qgm,Qfm,Qfr,Qfq,Qfu,Qef,Qcx,Qcz,Qan,Qgo,Qgn,Qgs,Qdi,Qde,Qdd,Qdc,Qhh,Qhf,Qcr,Qck,Qco,Qcj,Qcn,Qhi,Qgb,Qga,Qbe,Qbx,Qbt,Qdb,Qda,decide_true,Bool.not_true,Bool.not_false,if_true,List.drop_zero,List.drop_succ_cons,List.length_cons,List.length_nil,Nat.zero_add,Option.bind_some,Option.map_some,Bool.and_true,List.append_nil,Nat.reduceAdd,Qj,Qz,List.drop_nil,KG,Qu,Nat.le_refl,Nat.lt_add_one,Nat.zero_le,or_true,true_or,and_true,and_self,Nat.max_self,List.take_zero,List.take_succ_cons,h',WS hs h,WS ht h,hx,hy,hw,j2,ih]
   | false =>
    obtain ⟨r',q1,q2,ih⟩ := EQ hs ht (H := H) m (k + 1) (by omega) (by omega) r hr (fun i hi => by
     rw [hp i hi]
     by_cases e : i = k
     ·subst e; simp [hq]
     ·have : (i < k + 1) ↔ i < k := by omega
      simp [this])
    refine ⟨r',q1,q2,?_⟩
    have j2 : ∀ G,NN H.length (.bool false) (.bool true) (.bool true) (.bool true) (.ptr H.length 0 0) (.ptr (H.length + 1) 0 0) (.ptr (H.length + 2) 0 0) (.ptr (H.length + 3) 0 0) (.int .i64 (k : Int)) G = BA H.length (.bool false) (.bool true) (.bool true) (.bool true) (.ptr H.length 0 0) (.ptr (H.length + 1) 0 0) (.ptr (H.length + 2) 0 0) (.ptr (H.length + 3) 0 0) (.int .i64 ((k + 1 : Nat) : Int)) G := fun G => by
     rw [XS]; simp (maxDischargeDepth := 9) only [Qah,Qdx,w1]
    cases hx : s.has k <;> cases hy : t.has k <;> simp only [hx,hy,tbl,Bool.not_true,Bool.not_false,Bool.and_true,Bool.and_false,Bool.true_and,Bool.false_and,Bool.or_false,Bool.or_true,Bool.false_or,Bool.true_or,Bool.true_eq_false] at hq <;>
     simp (maxDischargeDepth := 9) only [Qah,Qag,Qab,Qbd,Qbc,Qci,Qcf,Qhd,Qgm,Qfm,Qfr,Qfq,Qfu,Qef,Qcx,Qcz,Qan,Qgo,Qgn,Qgs,Qdi,Qde,Qdd,Qdc,Qhh,Qhf,Qcr,Qck,Qco,Qcj,Qcn,Qhi,Qgb,Qga,Qbe,Qbx,Qbt,Qdb,Qda,decide_true,Bool.not_false,if_true,List.drop_zero,List.drop_succ_cons,List.length_cons,List.length_nil,Nat.zero_add,Option.bind_some,Option.map_some,Bool.and_true,List.append_nil,Nat.reduceAdd,Qj,Qz,List.drop_nil,KG,Qu,Nat.le_refl,Nat.lt_add_one,Nat.zero_le,true_or,and_true,and_self,Nat.max_self,List.take_zero,List.take_succ_cons,h',WS hs h,WS ht h,hx,hy,j2,ih]
  ·have h' : ¬ (k : Int) < 256 := by omega
   refine ⟨r,hr,fun i hi => by rw [hp i hi]; have : i < k := (by omega); simp [this],?_⟩
   simp (maxDischargeDepth := 9) only [Qah,Qag,Qbc,Qfm,Qef,Qcx,Qcz,Qan,Qgo,Qgn,Qgs,Qdi,Qde,Qdd,Qdc,Qhh,Qhf,Qcr,Qck,Qco,Qcj,Qcn,Qhi,Qgb,Qga,Qbe,Qbx,Qbt,Qdb,Qda,decide_false,if_true,List.drop_zero,List.drop_succ_cons,List.length_cons,List.length_nil,Nat.zero_add,Option.bind_some,Option.map_some,Bool.and_true,List.append_nil,Nat.reduceAdd,Qj,Qz,List.drop_nil,KG,Qu,Nat.le_refl,Nat.lt_add_one,Nat.zero_le,true_or,and_true,and_self,Nat.max_self,List.take_zero,List.take_succ_cons,h']
theorem QnU {s t : S4} (hs : s.ok) (ht : t.ok) (H : Qa) : E Ez [encS s,encS t] H = some (.ret (encS (s.join t)),H) := by
 have pk : ∀ G,E Cv [encS s,encS t,.bool false,.bool true,.bool true,.bool true] G = some (.ret (encS (s.join t)),G) := fun G => by
  obtain ⟨r',q1,q2,q3⟩ := EQ hs ht (H := G) 256 0 rfl (by omega) S4.zero S4.zero_ok (fun i _ => by simp [S4.zero_has])
  have e : r' = s.join t := S4.ext q1 (S4.join_ok hs ht) fun i hi => by
   rw [q2 i hi,S4.join_has]
   cases s.has i <;> cases t.has i <;> rfl
  subst e
  rw [Qot,QlH]
  simp only [Qam] at q3
  have z : S4.zero.cs = [.int .u64 0,.int .u64 0,.int .u64 0,.int .u64 0] := rfl
  rw [z] at q3
  simp (maxDischargeDepth := 9) only [Qag,Qan,Qgo,Qgn,Qgs,Qfv,List.length_cons,Bool.and_true,q3]
 rw [QhZ,Qok]
 simp (maxDischargeDepth := 9) only [Qah,Qag,Qab,Qcx,Qcz,Qan,Qgo,Qgn,Qgs,Qdi,Qde,Qdd,Qdc,Qhh,Qhf,Qcr,Qck,Qcj,Qcn,Qfv,Qhi,Qgb,Qga,Qbe,Qbx,Qbt,Qdb,Qda,if_true,List.drop_zero,List.drop_succ_cons,List.length_cons,List.length_nil,Nat.zero_add,Option.bind_some,Option.map_some,Bool.and_true,List.append_nil,Nat.reduceAdd,Qj,Qz,List.drop_nil,KG,Qu,Nat.le_refl,Nat.lt_add_one,Nat.zero_le,or_true,and_self,Nat.max_self,List.take_zero,List.take_succ_cons,pk]
theorem wk {k : Nat} (h : k < 256) : IntKind.i64.wrap ((k : Int) + 1) = ((k + 1 : Nat) : Int) := by rw [wrap_i64 (by omega) (by omega)]; omega
def S4.rng (s : S4) (lo hi : Int) : Prop := s.ok ∧ ∀ i : Nat,i < 256 → s.has i = (decide (lo ≤ (i : Int)) && decide ((i : Int) ≤ hi))
theorem Ep {lo hi : Int} {H : Qa} : ∀ (m k : Nat),256 - k = m → k ≤ 256 → ∀ r : S4,r.ok → (∀ i : Nat,i < 256 → r.has i = (decide (i < k) && (decide (lo ≤ (i : Int)) && decide ((i : Int) ≤ hi)))) →
  ∃ r' : S4,S4.rng r' lo hi ∧ MY H.length (.int .i64 lo) (.int .i64 hi) (.ptr H.length 0 0) (.ptr (H.length + 1) 0 0) (.int .i64 (k : Int)) (.var r.cs :: .var S4.zero.cs :: H) = some (.ret (encS r'),H)
 | m,k,hm,hk,r,hr,hp => by
  rw [QjL]
  by_cases h : k < 256
  ·have h' : (k : Int) < 256 := by omega
   obtain ⟨m,rfl⟩ : ∃ j,m = j + 1 := ⟨m - 1,by omega⟩
   have w1 := wk h
   have j2 : ∀ G,LM H.length (.int .i64 lo) (.int .i64 hi) (.ptr H.length 0 0) (.ptr (H.length + 1) 0 0) (.int .i64 (k : Int)) G = MY H.length (.int .i64 lo) (.int .i64 hi) (.ptr H.length 0 0) (.ptr (H.length + 1) 0 0) (.int .i64 ((k + 1 : Nat) : Int)) G := fun G => by
    rw [Qh1]; simp (maxDischargeDepth := 9) only [Qah,Qdx,w1]
   cases hq : decide (lo ≤ (k : Int)) && decide ((k : Int) ≤ hi) with
   | true =>
    obtain ⟨r',q1,ih⟩ := Ep (lo := lo) (hi := hi) (H := H) m (k + 1) (by omega) (by omega) (r.put k) (S4.put_ok hr k) (fun i hi' => by
     rw [S4.put_has r h hi',hp i hi']
     by_cases e : i = k
     ·subst e; simp [hq]
     ·have : (i < k + 1) ↔ i < k := by omega
      simp [e,this])
    refine ⟨r',q1,?_⟩
    have hw := fun H => Qhz hr h H
    simp only [Bool.and_eq_true,decide_eq_true_eq] at hq
    obtain ⟨g1,g2⟩ := hq
    simp (maxDischargeDepth := 9) only [Qah,Qag,Qab,Qbd,Qci,Qfm,Qfr,Qef,Qee,Qec,Qcx,Qcz,Qan,Qgo,Qgn,Qgs,Qdi,Qde,Qdd,Qdc,Qhh,Qhf,Qcr,Qck,Qco,Qcj,Qcn,Qhi,Qgb,Qga,Qbe,Qbx,Qbt,Qdb,Qda,decide_true,if_true,List.drop_zero,List.drop_succ_cons,List.length_cons,List.length_nil,Nat.zero_add,Option.bind_some,Option.map_some,Bool.and_true,List.append_nil,Nat.reduceAdd,Qj,Qz,List.drop_nil,Qu,Nat.le_refl,Nat.lt_add_one,Nat.zero_le,or_true,true_or,and_true,and_self,Nat.max_self,List.take_zero,List.take_succ_cons,h',g1,g2,hw,j2,ih]
   | false =>
    obtain ⟨r',q1,ih⟩ := Ep (lo := lo) (hi := hi) (H := H) m (k + 1) (by omega) (by omega) r hr (fun i hi' => by
     rw [hp i hi']
     by_cases e : i = k
     ·subst e; simp [hq]
     ·have : (i < k + 1) ↔ i < k := by omega
      simp [this])
    refine ⟨r',q1,?_⟩
    cases g1 : decide (lo ≤ (k : Int)) <;> cases g2 : decide ((k : Int) ≤ hi) <;> simp only [g1,g2,Bool.and_true,Bool.and_false,Bool.true_and,Bool.true_eq_false] at hq <;>
     simp (maxDischargeDepth := 9) only [Qah,Qag,Qbd,Qbc,Qci,Qcf,Qfm,Qfr,Qfq,Qef,Qee,Qec,Qcx,Qcz,Qan,Qgo,Qgn,Qgs,Qdi,Qde,Qdd,Qdc,Qhh,Qhf,Qcr,Qck,Qco,Qcj,Qcn,Qhi,Qgb,Qga,Qbe,Qbx,Qbt,Qdb,Qda,decide_true,if_true,List.drop_zero,List.drop_succ_cons,List.length_cons,List.length_nil,Nat.zero_add,Option.bind_some,Option.map_some,Bool.and_true,List.append_nil,Nat.reduceAdd,Qj,Qz,List.drop_nil,Qu,Nat.le_refl,Nat.lt_add_one,Nat.zero_le,true_or,and_true,and_self,Nat.max_self,List.take_zero,List.take_succ_cons,h',g1,g2,j2,ih]
  ·have h' : ¬ (k : Int) < 256 := by omega
   refine ⟨r,⟨hr,fun i hi => by rw [hp i hi]; have : i < k := (by omega); simp [this]⟩,?_⟩
   simp (maxDischargeDepth := 9) only [Qah,Qag,Qbc,Qfm,Qef,Qec,Qcx,Qcz,Qan,Qgo,Qgn,Qgs,Qdi,Qde,Qdd,Qdc,Qhh,Qhf,Qcr,Qck,Qco,Qcj,Qcn,Qhi,Qgb,Qga,Qbe,Qbx,Qbt,Qdb,Qda,decide_false,if_true,List.drop_zero,List.drop_succ_cons,List.length_cons,List.length_nil,Nat.zero_add,Option.bind_some,Option.map_some,Bool.and_true,List.append_nil,Nat.reduceAdd,Qj,Qz,List.drop_nil,Qu,Nat.le_refl,Nat.lt_add_one,Nat.zero_le,true_or,and_true,and_self,Nat.max_self,List.take_zero,List.take_succ_cons,h']
theorem Tt (lo hi : Int) (H : Qa) : ∃ r : S4,S4.rng r lo hi ∧ E BH [.int .i64 lo,.int .i64 hi] H = some (.ret (encS r),H) := by
 obtain ⟨r,h1,h2⟩ := Ep (lo := lo) (hi := hi) (H := H) 256 0 rfl (by omega) S4.zero S4.zero_ok (fun i _ => by simp [S4.zero_has])
 refine ⟨r,h1,?_⟩
 rw [Qjy,Qq0]
 simp only [Qam] at h2
 have z : S4.zero.cs = [.int .u64 0,.int .u64 0,.int .u64 0,.int .u64 0] := rfl
 rw [z] at h2
 simp (maxDischargeDepth := 9) only [Qag,Qan,Qgo,Qgn,Qgs,Qfv,List.length_cons,Bool.and_true,h2]
def S4.upto (s : S4) (k : Nat) : List Nat := (List.range k).filter s.has
theorem S4.upto_succ (s : S4) (k : Nat) : S4.upto s (k + 1) = S4.upto s k ++ if s.has k then [k] else [] := by
 unfold S4.upto
 rw [List.range_succ,List.filter_append]
 cases h : s.has k <;> simp [h]
theorem S4.upto_len (s : S4) (k : Nat) : (S4.upto s k).length ≤ k := by
 have := List.length_filter_le s.has (List.range k)
 simpa [S4.upto] using this
theorem QbC {s : S4} (hs : s.ok) {H : Qa} : ∀ (m k : Nat),256 - k = m → k ≤ 256 →
  Np H.length (.ptr H.length 0 0) (.int .i64 ((S4.upto s k).length : Int)) (.int .i64 (k : Int)) (.var s.cs :: H) = some (.ret (.int .i64 (s.bytes.length : Int)),H)
 | m,k,hm,hk => by
  rw [Qma]
  by_cases h : k < 256
  ·have h' : (k : Int) < 256 := by omega
   obtain ⟨m,rfl⟩ : ∃ j,m = j + 1 := ⟨m - 1,by omega⟩
   have w1 := wk h
   have ih := QbC hs (H := H) m (k + 1) (by omega) (by omega)
   have j2 : ∀ c G,Pk H.length (.ptr H.length 0 0) c (.int .i64 (k : Int)) G = Np H.length (.ptr H.length 0 0) c (.int .i64 ((k + 1 : Nat) : Int)) G := fun c G => by
    rw [Qp2]; simp (maxDischargeDepth := 9) only [Qah,Qdx,w1]
   rw [S4.upto_succ] at ih
   have hl := S4.upto_len s k
   cases hx : s.has k with
   | true =>
    rw [hx,if_pos rfl,List.length_append] at ih
    have w2 : IntKind.i64.wrap (((S4.upto s k).length : Int) + 1) = (((S4.upto s k).length + [k].length : Nat) : Int) := by rw [wrap_i64 (by omega) (by omega)]; simp
    simp (maxDischargeDepth := 9) only [Qah,Qab,Qbd,Qdx,Qef,Qcx,Qcz,Qge,Qcr,Qcj,Qhi,decide_true,List.drop_zero,List.length_cons,List.length_nil,Nat.zero_add,Nat.reduceAdd,Qj,Nat.le_refl,List.take_zero,List.take_succ_cons,h',WS hs h,hx]
    rw [w2,j2,ih]
   | false =>
    rw [hx,if_neg (by simp),List.append_nil] at ih
    simp (maxDischargeDepth := 9) only [Qah,Qab,Qbd,Qbc,Qdx,Qef,Qcx,Qcz,Qge,Qcr,Qcj,Qhi,decide_true,List.drop_zero,List.length_cons,List.length_nil,Nat.zero_add,Nat.reduceAdd,Qj,Nat.le_refl,List.take_zero,List.take_succ_cons,h',WS hs h,hx,j2,ih]
  ·have h' : ¬ (k : Int) < 256 := by omega
   have e : s.bytes = S4.upto s k := by rw [show k = 256 by omega]; rfl
   rw [e]
   simp (maxDischargeDepth := 9) only [Qah,Qbc,Qdx,Qef,Qcx,Qcz,Qge,Qcr,Qcj,Qhi,decide_false,List.drop_zero,List.length_cons,List.length_nil,Nat.zero_add,Nat.reduceAdd,Qj,Nat.le_refl,List.take_zero,List.take_succ_cons,h']
theorem EJ {s : S4} (hs : s.ok) (H : Qa) : E US [encS s] H = some (.ret (.int .i64 (s.bytes.length : Int)),H) := by
 rw [Qjq,QhY]
 have k := QbC hs (H := H) 256 0 rfl (by omega)
 simp only [Qam,S4.upto,List.range_zero,List.filter_nil,List.length_nil] at k
 simp (maxDischargeDepth := 9) only [Qag,Qan,Qgo,Qgn,Qgs,Qfv,Bool.and_true,k]
theorem QkB {s t : S4} (hs : s.ok) (ht : t.ok) (H : Qa) : E D5 [encS s,encS t] H = some (.ret (encS (s.join t)),H) := by
 rw [Qmj,Qm2]
 obtain ⟨a,b,c,d⟩ := s
 obtain ⟨a',b',c',d'⟩ := t
 obtain ⟨h0,h1,h2,h3⟩ := hs
 obtain ⟨g0,g1,g2,g3⟩ := ht
 simp only at h0 h1 h2 h3 g0 g1 g2 g3
 have x0 := fun (v : Nat) (o : Nat) => UV (len := 4) (n := 1) (i := v) (v := 0) (o := o) (k := .i64) (j := 0) (by omega)
 have x1 := fun (v : Nat) (o : Nat) => UV (len := 4) (n := 1) (i := v) (v := 0) (o := o) (k := .i64) (j := 1) (by omega)
 have x2 := fun (v : Nat) (o : Nat) => UV (len := 4) (n := 1) (i := v) (v := 0) (o := o) (k := .i64) (j := 2) (by omega)
 have x3 := fun (v : Nat) (o : Nat) => UV (len := 4) (n := 1) (i := v) (v := 0) (o := o) (k := .i64) (j := 3) (by omega)
 have y0 := fun (cs : List V) (hc : cs.length = 4) => FO (len := 4) (n := 1) (k := .i64) (j := 0) (cs := cs) (by omega) (by omega)
 have y1 := fun (cs : List V) (hc : cs.length = 4) => FO (len := 4) (n := 1) (k := .i64) (j := 1) (cs := cs) (by omega) (by omega)
 have y2 := fun (cs : List V) (hc : cs.length = 4) => FO (len := 4) (n := 1) (k := .i64) (j := 2) (cs := cs) (by omega) (by omega)
 have y3 := fun (cs : List V) (hc : cs.length = 4) => FO (len := 4) (n := 1) (k := .i64) (j := 3) (cs := cs) (by omega) (by omega)
 simp only [Qam] at x0 x1 x2 x3 y0 y1 y2 y3
 have q0 := MJ (e := 6) h0 g0
 have q1 := MJ (e := 6) h1 g1
 have q2 := MJ (e := 6) h2 g2
 have q3 := MJ (e := 6) h3 g3
 have w0 : IntKind.i64.wrap 1 = 1 := by decide
 have w1 : IntKind.i64.wrap 2 = 2 := by decide
 have w2 : IntKind.i64.wrap 3 = 3 := by decide
 have w3 : IntKind.i64.wrap 4 = 4 := by decide
 simp (maxDischargeDepth := 9) only [Qah,Qag,Qcz,Qan,Qgo,Qgn,Qgs,Qck,Qcj,Qfv,Qhi,List.drop_zero,List.length_cons,List.length_nil,Nat.zero_add,Bool.and_true,Nat.reduceAdd,Qj,Nat.le_refl,Nat.lt_add_one,List.take_zero,List.take_succ_cons]
 rw [MH]
 simp (maxDischargeDepth := 9) only [Qah,Qag,Qbd,Qdx,Qef,Qcx,Qcz,Qhj,Qar,Qan,Qgo,Qgn,Qgs,Qdi,Qde,Qdd,Qdc,Qhh,Qcr,Qck,Qco,Qcj,Qcn,Qhi,Qgb,Qga,Qbe,Qbx,Qbt,Qdb,Qda,decide_true,if_true,List.drop_zero,List.drop_succ_cons,List.length_cons,List.length_nil,Nat.add_zero,Nat.zero_add,Option.bind_some,Option.map_some,Bool.and_true,List.append_nil,List.nil_append,List.cons_append,Nat.reduceAdd,Nat.reduceMul,Int.reduceAdd,Qj,Qz,List.drop_nil,KG,Qu,Nat.le_refl,Nat.lt_add_one,Nat.zero_le,or_true,true_or,and_true,and_self,Nat.max_self,List.take_zero,List.take_succ_cons,Int.reduceLT,x0,y0,q0,w0,splice,S4.cs,List.getElem?_cons_zero,List.getElem?_cons_succ]
 rw [MH]
 simp (maxDischargeDepth := 9) only [Qah,Qag,Qbd,Qdx,Qef,Qcx,Qcz,Qhj,Qar,Qan,Qgo,Qgn,Qgs,Qdi,Qde,Qdd,Qdc,Qhh,Qcr,Qck,Qco,Qcj,Qcn,Qhi,Qgb,Qga,Qbe,Qbx,Qbt,Qdb,Qda,decide_true,if_true,List.drop_zero,List.drop_succ_cons,List.length_cons,List.length_nil,Nat.zero_add,Option.bind_some,Option.map_some,Bool.and_true,List.append_nil,List.nil_append,List.cons_append,Nat.reduceAdd,Nat.reduceMul,Int.reduceAdd,Qj,Qz,List.drop_nil,KG,Qu,Nat.le_refl,Nat.lt_add_one,Nat.zero_le,or_true,true_or,and_true,and_self,Nat.max_self,List.take_zero,List.take_succ_cons,Int.reduceLT,x1,y1,q1,w1,splice,S4.cs,List.getElem?_cons_zero,List.getElem?_cons_succ]
 rw [MH]
 simp (maxDischargeDepth := 9) only [Qah,Qag,Qbd,Qdx,Qef,Qcx,Qcz,Qhj,Qar,Qan,Qgo,Qgn,Qgs,Qdi,Qde,Qdd,Qdc,Qhh,Qcr,Qck,Qco,Qcj,Qcn,Qhi,Qgb,Qga,Qbe,Qbx,Qbt,Qdb,Qda,decide_true,if_true,List.drop_zero,List.drop_succ_cons,List.length_cons,List.length_nil,Nat.zero_add,Option.bind_some,Option.map_some,Bool.and_true,List.append_nil,List.nil_append,List.cons_append,Nat.reduceAdd,Nat.reduceMul,Int.reduceAdd,Qj,Qz,List.drop_nil,KG,Qu,Nat.le_refl,Nat.lt_add_one,Nat.zero_le,or_true,true_or,and_true,and_self,Nat.max_self,List.take_zero,List.take_succ_cons,Int.reduceLT,x2,y2,q2,w2,splice,S4.cs,List.getElem?_cons_zero,List.getElem?_cons_succ]
 rw [MH]
 simp (maxDischargeDepth := 9) only [Qah,Qag,Qbd,Qdx,Qef,Qcx,Qcz,Qhj,Qar,Qan,Qgo,Qgn,Qgs,Qdi,Qde,Qdd,Qdc,Qhh,Qcr,Qck,Qco,Qcj,Qcn,Qhi,Qgb,Qga,Qbe,Qbx,Qbt,Qdb,Qda,decide_true,if_true,List.drop_zero,List.drop_succ_cons,List.length_cons,List.length_nil,Nat.zero_add,Option.bind_some,Option.map_some,Bool.and_true,List.append_nil,List.nil_append,List.cons_append,Nat.reduceAdd,Nat.reduceMul,Int.reduceAdd,Qj,Qz,List.drop_nil,KG,Qu,Nat.le_refl,Nat.lt_add_one,Nat.zero_le,or_true,true_or,and_true,and_self,Nat.max_self,List.take_zero,List.take_succ_cons,Int.reduceLT,x3,y3,q3,w3,splice,S4.cs,List.getElem?_cons_zero,List.getElem?_cons_succ]
 rw [MH]
 simp (maxDischargeDepth := 9) only [Qah,Qag,Qbc,Qdx,Qef,Qcx,Qcz,Qan,Qgo,Qgn,Qgs,Qdi,Qde,Qdd,Qdc,Qhh,Qhf,Qcr,Qck,Qcj,Qcn,Qhi,Qgb,Qga,Qbe,Qbx,Qbt,Qdb,Qda,decide_false,if_true,List.drop_zero,List.drop_succ_cons,List.length_cons,List.length_nil,Nat.zero_add,Option.bind_some,Option.map_some,Bool.and_true,List.append_nil,Nat.reduceAdd,Int.reduceAdd,Qj,Qz,List.drop_nil,KG,Qu,Nat.le_refl,Nat.lt_add_one,Nat.zero_le,true_or,and_true,and_self,Nat.max_self,List.take_zero,List.take_succ_cons,Int.reduceLT]
 rfl
theorem eqS (s t : S4) : Qb .eql 46 (.agg s.cs) (.agg t.cs) = some (.bool (decide (s = t))) := by
 rw [JA]
 have e : Yy s.cs t.cs = decide (s = t) := by
  rw [Bool.eq_iff_iff]
  obtain ⟨a,b,c,d⟩ := s
  obtain ⟨a',b',c',d'⟩ := t
  simp only [S4.cs,Yy,V.beq,Bool.and_eq_true,beq_iff_eq,decide_eq_true_eq,S4.mk.injEq,and_true,true_and,Int.natCast_inj]
 have hi : YV .u64 s.cs = true := rfl
 have hj : YV .u64 t.cs = true := rfl
 simp only [Kn,Kw,rEq,BP,J0,Ru,List.length_cons,List.length_nil,Nat.reduceAdd,Nat.reduceDiv,Nat.reduceMod,hi,hj,and_self,if_true,Option.map_some,e]
theorem neS (s t : S4) : Qb .neq 46 (.agg s.cs) (.agg t.cs) = some (.bool (!decide (s = t))) := by
 rw [JA]
 have := eqS s t
 rw [JA] at this
 simp only [Kn,Kw,rEq,BP,J0] at this ⊢
 cases h : (if List.length s.cs = 39 / 8 ∧ List.length t.cs = 39 / 8 ∧ YV (Ru (39 % 8)) s.cs = true ∧ YV (Ru (39 % 8)) t.cs = true then some (Yy s.cs t.cs) else none) with
 | none => rw [h] at this; simp at this
 | some b => rw [h] at this; simp only [Option.map_some,Option.some.injEq,V.bool.injEq] at this ⊢; rw [this]
theorem bS0 : NT [.int .u64 0,.int .u64 0,.int .u64 0,.int .u64 0] 1 [] = some (.agg S4.zero.cs) := by
 rw [M9]; rfl
abbrev zX : List V := [.int .i64 0,.int .u64 0,.int .u64 0,.int .u64 0,.int .u64 0,.nils]
theorem bX0 : Zj zX [(0,1),(1,4),(5,1)] [] = some (.agg zX) := by simp [splice]
theorem bXk (k : Int) : Zj zX [(0,1),(1,4),(5,1)] [(0,.int .i64 k)] = some (.agg [.int .i64 k,.int .u64 0,.int .u64 0,.int .u64 0,.int .u64 0,.nils]) := by simp [splice]
theorem bXs (k : Int) (s : S4) : Zj zX [(0,1),(1,4),(5,1)] [(0,.int .i64 k),(1,.agg s.cs)] = some (.agg [.int .i64 k,.int .u64 s.a,.int .u64 s.b,.int .u64 s.c,.int .u64 s.d,.nils]) := by simp [splice]
theorem bXv (k : Int) (l : List V) : Zj zX [(0,1),(1,4),(5,1)] [(0,.int .i64 k),(2,.vs l)] = some (.agg [.int .i64 k,.int .u64 0,.int .u64 0,.int .u64 0,.int .u64 0,.vs l]) := by simp [splice]
def ofX (s : S4) : X := if s = S4.zero then .mk 0 S4.zero [] else .mk 2 s []
theorem QlC (s : S4) (H : Qa) : E AO [encS s] H = some (.ret (Qd (ofX s)),H) := by
 rw [Qit,Qpy]
 unfold ofX
 by_cases h : s = S4.zero
 ·rw [if_pos h]
  have e := eqS s S4.zero
  rw [decide_eq_true h] at e
  have b := bXk 0
  simp only [Qah,Qag,Qbd,Qcx,Qcz,Qan,Qgo,Qgn,Qgs,Qgy,Qdi,Qdo,Qdt,Qde,Qdd,Qdc,Qhh,Qhf,Qcr,Qck,Qcj,Qcn,Qfv,Qhi,Qgb,Qga,Qbe,Qbx,Qca,Qbt,Qdb,Qda,if_true,List.drop_zero,List.drop_succ_cons,List.length_cons,List.length_nil,Nat.zero_add,Option.bind_some,Option.map_some,Bool.and_true,List.append_nil,Nat.reduceAdd,Qj,Qz,List.drop_nil,Qu,Nat.le_refl,Nat.lt_add_one,Nat.zero_le,or_true,true_or,and_true,and_self,Nat.max_self,List.take_zero,List.take_succ_cons,bS0,e,b]
  rfl
 ·rw [if_neg h]
  have e := eqS s S4.zero
  rw [decide_eq_false h] at e
  have b := bXs 2 s
  simp only [Qah,Qag,Qbc,Qcx,Qcz,Qan,Qgo,Qgn,Qgs,Qgy,Qdi,Qdt,Qde,Qdd,Qdc,Qhh,Qhf,Qcr,Qck,Qcj,Qcn,Qfv,Qhi,Qgb,Qga,Qbe,Qbx,Qca,Qbt,Qdb,Qda,if_true,List.drop_zero,List.drop_succ_cons,List.length_cons,List.length_nil,Nat.zero_add,Option.bind_some,Option.map_some,Bool.and_true,List.append_nil,Nat.reduceAdd,Qj,Qz,List.drop_nil,Qu,Nat.le_refl,Nat.lt_add_one,Nat.zero_le,true_or,and_true,and_self,Nat.max_self,List.take_zero,List.take_succ_cons,bS0,e,b]
  rfl
theorem Qp5 {s : S4} (hs : s.ok) (H : Qa) : E Dw [encS s] H = some (.ret (Qd (ofX s)),H) := by
 rw [QnH,Qmi]
 unfold ofX
 have c := fun H => EJ hs H
 have hz := S4.zero_bytes hs
 by_cases h : s = S4.zero
 ·rw [if_pos h]
  have e : decide ((s.bytes.length : Int) = 0) = true := by rw [hz.1 h]; rfl
  have b := bX0
  simp only [Qah,Qag,Qab,Qbd,Qeb,Qcx,Qcz,Qan,Qgo,Qgn,Qgs,Qgy,Qdi,Qdo,Qdt,Qde,Qdd,Qdc,Qhh,Qhf,Qcr,Qck,Qcj,Qcn,Qfv,Qhi,Qgb,Qga,Qbe,Qbx,Qca,Qbt,Qdb,Qda,if_true,List.drop_zero,List.drop_succ_cons,List.length_cons,List.length_nil,Nat.zero_add,Option.bind_some,Option.map_some,Bool.and_true,List.append_nil,Nat.reduceAdd,Qj,Qz,List.drop_nil,Qu,Nat.le_refl,Nat.lt_add_one,Nat.zero_le,or_true,true_or,and_true,and_self,Nat.max_self,List.take_zero,List.take_succ_cons,c,e,b]
  rfl
 ·rw [if_neg h]
  have e : decide ((s.bytes.length : Int) = 0) = false := by
   have : s.bytes ≠ [] := fun x => h (hz.2 x)
   have := List.length_pos_iff.2 this
   rw [decide_eq_false_iff_not]; omega
  have b := bXs 2 s
  simp only [Qah,Qag,Qab,Qbc,Qeb,Qcx,Qcz,Qan,Qgo,Qgn,Qgs,Qgy,Qdi,Qdo,Qdt,Qde,Qdd,Qdc,Qhh,Qhf,Qcr,Qck,Qcj,Qcn,Qfv,Qhi,Qen,Qgb,Qga,Qbe,Qbx,Qca,Qbt,Qdb,Qda,if_true,List.drop_zero,List.drop_succ_cons,List.length_cons,List.length_nil,Nat.zero_add,Option.bind_some,Option.map_some,Bool.and_true,List.append_nil,Nat.reduceAdd,Qj,Qz,List.drop_nil,Qu,Nat.le_refl,Nat.lt_add_one,Nat.zero_le,or_true,true_or,and_true,and_self,Nat.max_self,List.take_zero,List.take_succ_cons,c,e,b]
  rfl
theorem Ty {n : Nat} (h : n < 10) : Lib.decDigits n = [UInt8.ofNat (48 + n)] := by rw [Lib.decDigits,dif_pos h]
theorem TD {n : Nat} (h : ¬ n < 10) : Lib.decDigits n = Lib.decDigits (n / 10) ++ [UInt8.ofNat (48 + n % 10)] := by rw [Lib.decDigits,dif_neg h]
theorem QdN : ∀ n : Nat,(Lib.decDigits n).length ≤ n + 1
 | n => by
  by_cases h : n < 10
  ·rw [Ty h]; simp
  ·rw [TD h]
   have := QdN (n / 10)
   simp; omega
theorem QcV : ∀ (n : Nat),n ≤ 1000000000000 → ∀ H : Qa,E BF [.int .i64 n] H = some (.ret (.str (Lib.decDigits n)),H)
 | n,hn,H => by
  have q1 : IntKind.i64.wrap ((n : Int).tdiv 10) = ((n / 10 : Nat) : Int) := by
   rw [Int.tdiv_eq_ediv_of_nonneg (by omega),wrap_i64 (by omega) (by omega)]; omega
  have m1 : (n : Int).tmod 10 = ((n % 10 : Nat) : Int) := by rw [Int.tmod_eq_emod_of_nonneg (by omega)]; omega
  have o1 := Da .i64 6 (n : Int) 10 (by omega)
  have o2 := Bq .i64 6 (n : Int) 10 (by omega)
  rw [q1] at o1
  rw [m1] at o2
  have w1 : IntKind.i64.wrap (48 + ((n % 10 : Nat) : Int)) = ((48 + n % 10 : Nat) : Int) := by rw [wrap_i64 (by omega) (by omega)]; omega
  have w2 : IntKind.u8.wrap ((48 + n % 10 : Nat) : Int) = ((48 + n % 10 : Nat) : Int) := wrap_u8 (by omega) (by omega)
  have hb : (UInt8.ofNat (48 + n % 10)).toNat = 48 + n % 10 := by simp [UInt8.toNat_ofNat']; omega
  have ht : ∀ H,JV H (.vs [.int .u8 ((48 + n % 10 : Nat) : Int)]) = some (.str [UInt8.ofNat (48 + n % 10)]) := fun H => by
   have := QbQ (H := H) (s := [UInt8.ofNat (48 + n % 10)])
   simp only [List.map_cons,List.map_nil,hb] at this
   exact this
  rw [Qmy,Qin]
  by_cases h : n < 10
  ·have h' : (n : Int) < 10 := by omega
   have e : n % 10 = n := by omega
   rw [Ty h]
   rw [e] at o2 w1 w2 ht
   simp only [Qah,Qbd,Qey,Qdx,Qef,Qcx,Qgi,Qff,decide_true,o2,w1,w2,ht,h']
  ·have h' : ¬ (n : Int) < 10 := by omega
   have ih := fun H => QcV (n / 10) (by omega) H
   have hl := QdN (n / 10)
   have c1 : Qb .add 6 (.str (Lib.decDigits (n / 10))) (.str [UInt8.ofNat (48 + n % 10)]) = some (.str (Lib.decDigits (n / 10) ++ [UInt8.ofNat (48 + n % 10)])) := Z3 _ _ _ (by simp; omega)
   rw [TD h]
   simp only [Qah,Qab,Qbc,Qey,Qdx,Qef,Qcx,Qgi,Qff,decide_false,o1,o2,w1,w2,ht,h',ih,c1]
 termination_by n => n
theorem QaW {n : Int} (h : 0 ≤ n ∧ n ≤ 255) (H : Qa) : E BF [.int .i64 n] H = some (.ret (.str (Lib.itoa n)),H) := by
 obtain ⟨k,rfl⟩ : ∃ k : Nat,n = k := ⟨n.toNat,by omega⟩
 have e : Lib.itoa (k : Int) = Lib.decDigits k := by unfold Lib.itoa; rw [if_neg (by omega),show ((k : Int)).toNat = k by omega]
 rw [e]
 exact QcV k (by omega) H
theorem GQ {n : Int} (h : 0 ≤ n ∧ n ≤ 255) (H : Qa) : E Xj [.int .i64 n] H = some (.ret (.str (Lib.itoa n)),H) := by
 have h0 : -9223372036854775808 ≤ n := by omega
 have h1 : n ≤ 9223372036854775807 := by omega
 rw [show E = EV Tryd.prog YW D from rfl,Kx (g := iRd RE) rfl]
 unfold iRd RE
 simp only [h0,h1,and_self,if_true,Option.map_some]
def encR (x : Int × Int) : V := .agg [.int .i64 x.1,.int .i64 x.2]
theorem W4 : EncOK encR 2 := ⟨by omega,fun x => ⟨_,rfl,rfl,rfl,rfl,fun c hc => by
 simp only [List.mem_cons,List.not_mem_nil,or_false] at hc
 rcases hc with rfl | rfl <;> rfl,rfl⟩⟩
theorem Qqx {s : S4} (hs : s.ok) (H : Qa) : E QfM [encS s] H = some (.ret (.vs (s.rs.map encR)),H) := by
 rw [show E = EV Tryd.prog YW D from rfl,Kx (g := iRd NI) rfl]
 have o : ∀ x : Nat,x < 18446744073709551616 → Uq (x : Int) = true := fun x hx => by unfold Uq; simp; omega
 have e := S4.allB_eq (s := s)
 unfold iRd NI
 simp only [encS,S4.cs,o _ hs.1,o _ hs.2.1,o _ hs.2.2.1,o _ hs.2.2.2,Bool.and_self,if_true,Option.map_some,Int.toNat_natCast,e]
 rfl
theorem T6 : ∀ l : List (List UInt8),Km (l.map V.str) = some l
 | [] => rfl
 | s :: l => by simp [Km,T6 l]
theorem QmZ {l : List (List UInt8)} {sep : List UInt8} (h1 : l.length ≤ 140737488355328) (h2 : (Lib.join l sep).length ≤ 140737488355328) {H : Qa} {i ver : Nat} (hg : Qh H i = some (.row ver 1 false (l.map V.str))) :
  E D3 [.rs i ver 1 0 l.length,.str sep] H = some (.ret (.str (Lib.join l sep)),H) := by
 rw [show E = EV Tryd.prog YW D from rfl,Kx (g := iRd UJ) rfl]
 unfold iRd UJ
 have hc : List.take l.length (l.map V.str) = l.map V.str := List.take_of_length_le (by simp)
 simp [ZB,ZM,hg,T6,h1,h2,hc]
theorem Qlp {sep : List UInt8} (H : Qa) : E D3 [.nils,.str sep] H = some (.ret (.str []),H) := by
 rw [show E = EV Tryd.prog YW D from rfl,Kx (g := iRd UJ) rfl]
 unfold iRd UJ
 simp [ZB,ZM,Km,Lib.join_nil]
theorem Ae {l : List (Int × Int)} {j : Nat} (h : j < l.length) (k : IntKind) : Qx 2 (.vs (l.map encR)) (.int k (j : Int)) = some (.fptr (encR l[j]).cells) :=
 GZ (y := encR l[j]) (by simp [h]) rfl
theorem AY {x : Int × Int} (hx : (0 ≤ x.1 ∧ x.1 ≤ 255) ∧ (0 ≤ x.2 ∧ x.2 ≤ 255)) : (∃ t u,Lib.itoa x.1 = t ∧ Lib.itoa x.2 = u ∧ t.length ≤ 3 ∧ u.length ≤ 3) := ⟨_,_,rfl,rfl,PO hx.1.1 hx.1.2,PO hx.2.1 hx.2.2⟩
set_option maxHeartbeats 1000000 in
theorem QdG {rs : List (Int × Int)} (hr : ∀ x ∈ rs,(0 ≤ x.1 ∧ x.1 ≤ 255) ∧ (0 ≤ x.2 ∧ x.2 ≤ 255)) (hn : rs.length ≤ 256) {H : Qa} {idx : Nat} (hidx : H.length ≤ idx) : ∀ (m i : Nat),rs.length - i = m → i ≤ rs.length → ∀ ver G,Up H G →
  Qh G idx = some (.row ver 1 false (((rs.take i).map Yp).map V.str)) →
  Gc H.length (.rs idx ver 1 0 i) (.vs (rs.map encR)) (.int .i64 rs.length) (.int .i64 i) G = some (.ret (.str ([91] ++ Y4 true (rs.map Yp) ++ [93])),H)
 | m,i,hm,hi,ver,G,hU,hg => by
  have hlen := QaN (l := rs.map Yp) (fun x hx => by
   obtain ⟨y,hy,rfl⟩ := List.mem_map.1 hx
   exact QbL (hr y hy)) true
  rw [List.length_map] at hlen
  rw [Ca]
  by_cases h : i < rs.length
  ·have h' : (i : Int) < (rs.length : Int) := by omega
   obtain ⟨m,rfl⟩ : ∃ j,m = j + 1 := ⟨m - 1,by omega⟩
   have hx := hr rs[i] (List.getElem_mem h)
   obtain ⟨t,u,ht,hu,lt,lu⟩ := AY hx
   have w1 : IntKind.i64.wrap ((i : Int) + 1) = ((i + 1 : Nat) : Int) := by rw [wrap_i64 (by omega) (by omega)]; omega
   have i1 := fun H => GQ hx.1 H
   have i2 := fun H => GQ hx.2 H
   rw [ht] at i1
   rw [hu] at i2
   have c1 : Qb .add 6 (.str t) (.str [45]) = some (.str (t ++ [45])) := Z3 _ _ _ (by simp; omega)
   have c2 : Qb .add 6 (.str (t ++ [45])) (.str u) = some (.str (t ++ [45] ++ u)) := Z3 _ _ _ (by simp; omega)
   have hlt := Q4 hg
   have hrl : (((rs.take i).map Yp).map V.str).length = i * 1 := by simp; omega
   have hap := Qf6 (O := H.length) (by_ := 16) (x := .str (t ++ [45] ++ u)) (H := .var (encR rs[i]).cells :: G) (i := idx) (len := i) ((Qck hlt).trans hg) hrl rfl rfl (by omega) (.inl hidx) (by simp [Yj]; omega)
   have hp : Yp rs[i] = t ++ [45] ++ u := by unfold Yp; rw [ht,hu]
   have e1 : ((rs.take i).map Yp).map V.str ++ (V.str (t ++ [45] ++ u)).cells = ((rs.take (i + 1)).map Yp).map V.str := by
    rw [List.take_succ_eq_append_getElem h,List.map_append,List.map_append,← hp]; rfl
   rw [e1] at hap
   have ih := QdG hr hn hidx m (i + 1) (by omega) (by omega) (ver + 1) (Qn (.var (encR rs[i]).cells :: G) idx (.row (ver + 1) 1 false (((rs.take (i + 1)).map Yp).map V.str))) ((hU.cons _).set hidx _) (Qcl (by simp; omega))
   have hc : (encR rs[i]).cells = [.int .i64 rs[i].1,.int .i64 rs[i].2] := rfl
   rw [hc] at hap ih
   have ix := Ae h .i64
   rw [hc] at ix
   simp only [Qah,Qag,Qab,Qbd,Qhd,Qgm,Qet,Qdx,Qef,Qcz,Qfh,Qhj,Qan,Qgo,Qgn,Qgs,Qdi,Qde,Qdd,Qdc,Qhh,Qhf,Qcj,Qcn,Qfv,Qhi,Qfg,decide_true,if_true,List.drop_zero,List.drop_succ_cons,List.length_cons,List.length_nil,Nat.add_zero,Nat.zero_add,Bool.and_true,List.append_nil,List.nil_append,List.cons_append,Nat.reduceAdd,Qj,Qz,List.drop_nil,Qu,Nat.le_refl,Nat.zero_le,or_true,and_true,and_self,Nat.max_self,List.take_zero,List.take_succ_cons,h',ix,i1,i2,c1,c2,w1]
   rw [hap]
   simp only [Qag,w1]
   exact ih
  ·have h' : ¬ (i : Int) < (rs.length : Int) := by omega
   obtain rfl : i = rs.length := by omega
   rw [List.take_of_length_le (Nat.le_refl _)] at hg
   have hj := QmZ (sep := [44]) (by simp; omega) (by rw [← Qa0]; omega) hg
   rw [← Qa0] at hj
   rw [List.length_map] at hj
   generalize Y4 true (rs.map Yp) = q at *
   have c1 : Qb .add 6 (.str [91]) (.str q) = some (.str ([91] ++ q)) := Z3 _ _ _ (by simp; omega)
   have c2 : Qb .add 6 (.str ([91] ++ q)) (.str [93]) = some (.str ([91] ++ q ++ [93])) := Z3 _ _ _ (by simp; omega)
   have hT := hU.trunc
   simp only [List.cons_append,List.nil_append] at c1 c2
   simp only [Qah,Qag,Qab,Qbc,Qet,Qdx,Qef,Qgi,Qan,Qgo,Qgn,Qgs,Qhh,Qhf,Qcj,Qcn,Qfv,decide_false,List.length_cons,List.length_nil,Nat.add_zero,Nat.zero_add,Bool.and_true,List.nil_append,List.cons_append,Nat.reduceAdd,Qj,Qz,Nat.le_refl,and_true,and_self,h',hj,c1,c2,hT]
theorem Qjt {s : S4} (hs : s.ok) (H : Qa) : E Uj [encS s] H = some (.ret (.str (U5 s)),H) := by
 rw [Qkb,Qo8]
 have hr := fun H => Qqx hs H
 have hm := s.rs_mem
 have hn := s.rs_len
 unfold U5
 generalize s.rs = rs at *
 cases rs with
 | nil =>
  have j := fun H => Qlp (sep := [44]) H
  have c1 : Qb .add 6 (.str [91]) (.str []) = some (.str [91]) := Z3 _ _ _ (by simp)
  have c2 : Qb .add 6 (.str [91]) (.str [93]) = some (.str [91,93]) := Z3 _ _ _ (by simp)
  simp only [Qah,Qag,Qab,Qfc,Qcz,Qan,Qgo,Qgn,Qgs,Qam,Qcj,Qfv,Qhi,List.drop_zero,List.length_cons,List.length_nil,Nat.zero_add,Bool.and_true,List.nil_append,List.cons_append,Nat.reduceAdd,Qj,Nat.le_refl,List.take_zero,List.take_succ_cons,hr,List.map_nil]
  rw [Ca]
  simp only [Qah,Qag,Qab,Qbc,Qet,Qdx,Qef,Qcx,Qgi,Qan,Qgo,Qgn,Qgs,Qhh,Qhf,Qcr,Qcj,Qcn,Qfv,decide_false,List.length_cons,List.length_nil,Nat.add_zero,Nat.zero_add,Bool.and_true,List.nil_append,Nat.reduceAdd,Int.reduceAdd,Qj,Qz,Qu,Nat.le_refl,true_or,and_true,and_self,Int.lt_irrefl,j,c1,c2,Y4]
 | cons x rs =>
  have hx := hm x List.mem_cons_self
  obtain ⟨t,u,ht,hu,lt,lu⟩ := AY hx
  have i1 := fun H => GQ hx.1 H
  have i2 := fun H => GQ hx.2 H
  rw [ht] at i1
  rw [hu] at i2
  have c1 : Qb .add 6 (.str t) (.str [45]) = some (.str (t ++ [45])) := Z3 _ _ _ (by simp; omega)
  have c2 : Qb .add 6 (.str (t ++ [45])) (.str u) = some (.str (t ++ [45] ++ u)) := Z3 _ _ _ (by simp; omega)
  have hp : Yp x = t ++ [45] ++ u := by unfold Yp; rw [ht,hu]
  have ix := Ae (l := x :: rs) (j := 0) (by simp) .i64
  have hc : (encR x).cells = [.int .i64 x.1,.int .i64 x.2] := rfl
  simp only [List.getElem_cons_zero,hc,Qam] at ix
  have hap := fun G : Qa => Tn (O := H.length) (sz := 1) (by_ := 16) (ag := false) (x := .str (t ++ [45] ++ u)) (H := G) rfl rfl (by omega) (by decide)
  have w1 : IntKind.i64.wrap 1 = 1 := by decide
  have h0 : (0 : Int) < ((rs.length + 1 : Nat) : Int) := by omega
  have ih := QdG (rs := x :: rs) hm hn (H := H) (idx := H.length + 2) (by omega) rs.length 1 (by simp) (by simp) 0 (.row 0 1 false [.str (t ++ [45] ++ u)] :: .var [.int .i64 x.1,.int .i64 x.2] :: .var s.cs :: H) (((Up.refl H).cons _).cons _ |>.cons _) (by simp [hp])
  simp only [Qam] at ih
  simp only [Qah,Qag,Qab,Qfc,Qcz,Qan,Qgo,Qgn,Qgs,Qcj,Qfv,Qhi,List.drop_zero,List.length_cons,List.length_nil,Nat.zero_add,Bool.and_true,List.nil_append,List.cons_append,Nat.reduceAdd,Qj,Nat.le_refl,List.take_zero,List.take_succ_cons,hr]
  rw [Ca]
  simp only [Qah,Qag,Qab,Qbd,Qhd,Qgm,Qet,Qdx,Qef,Qcz,Qfh,Qhj,Qba,Qan,Qgo,Qgn,Qgs,Qhh,Qhf,Qcj,Qcn,Qfv,Qhi,Qfg,decide_true,if_true,List.drop_zero,List.drop_succ_cons,List.length_cons,List.length_nil,Nat.add_zero,Nat.zero_add,Bool.and_true,List.append_nil,Nat.reduceAdd,Int.reduceAdd,Qj,Qz,List.drop_nil,Qu,Nat.le_refl,true_or,and_true,and_self,List.take_zero,List.take_succ_cons,List.length_map,h0,ix,i1,i2,c1,c2,w1,hap]
  exact ih
theorem QnW {b : Int} (h : 0 ≤ b ∧ b ≤ 255) : Go.RowKit.wrap64 (b - 1) = b - 1 ∧ IntKind.i64.wrap (b - 1) = b - 1 := ⟨by unfold Go.RowKit.wrap64; omega,wrap_i64 (by omega) (by omega)⟩
def S4.rsTo (s : S4) (k : Nat) : List (Int × Int) := rgs ((S4.upto s k).map fun i : Nat => (i : Int))
theorem S4.rsTo_succ (s : S4) (k : Nat) : S4.rsTo s (k + 1) = if s.has k then Z2 (S4.rsTo s k) (k : Int) else S4.rsTo s k := by
 unfold S4.rsTo
 rw [S4.upto_succ]
 cases h : s.has k <;> simp [rgs]
theorem S4.rsTo_len (s : S4) (k : Nat) : (S4.rsTo s k).length ≤ k := by
 have := Xo ((S4.upto s k).map fun i : Nat => (i : Int)) []
 have h := S4.upto_len s k
 unfold S4.rsTo rgs
 simp at this ⊢
 omega
theorem Qkm {l : List (Int × Int)} {x : Int × Int} : (ZK encR (l ++ [x])).drop (l.length * 2) = [.int .i64 x.1,.int .i64 x.2] := by
 rw [MZ,List.drop_append_of_le_length (by rw [W4.cellsF_length]; exact Nat.le_refl _),List.drop_of_length_le (by rw [W4.cellsF_length]; exact Nat.le_refl _)]
 rfl
theorem QgQ {s : S4} (hs : s.ok) {H : Qa} : ∀ (m k : Nat),256 - k = m → k ≤ 256 → ∀ ver,
  QrP H.length (.ptr H.length 0 0) (if S4.rsTo s k = [] then .nils else .rs (H.length + 1) ver 2 0 (S4.rsTo s k).length) (.int .i64 (k : Int)) (if S4.rsTo s k = [] then .var s.cs :: H else .row ver 2 true (ZK encR (S4.rsTo s k)) :: .var s.cs :: H) = some (.ret (.vs (s.rs.map encR)),H)
 | m,k,hm,hk,ver => by
  rw [Qqv]
  by_cases h : k < 256
  ·have h' : (k : Int) < 256 := by omega
   obtain ⟨m,rfl⟩ : ∃ j,m = j + 1 := ⟨m - 1,by omega⟩
   have w1 := wk h
   have j2 : ∀ c G,NL H.length (.ptr H.length 0 0) c (.int .i64 (k : Int)) G = QrP H.length (.ptr H.length 0 0) c (.int .i64 ((k + 1 : Nat) : Int)) G := fun c G => by
    rw [QpX]; simp (maxDischargeDepth := 9) only [Qah,Qdx,w1]
   have ihv := fun v => QgQ hs (H := H) m (k + 1) (by omega) (by omega) v
   rw [S4.rsTo_succ] at ihv
   have hl := S4.rsTo_len s k
   generalize S4.rsTo s k = l at *
   have hH := fun H => WS hs h H
   cases hx : s.has k with
   | false =>
    simp only [hx,Bool.false_eq_true,if_false] at ihv
    have ih := ihv ver
    rw [hx] at hH
    cases l with
    | nil =>
     rw [if_pos rfl,if_pos rfl] at ih ⊢
     simp (maxDischargeDepth := 9) only [Qah,Qab,Qbd,Qfm,Qfu,Qfa,Qel,Qef,Qed,Qcx,Qcz,Qcr,Qcj,Qhi,Qem,Qgg,decide_true,Bool.not_false,List.drop_zero,List.length_cons,List.length_nil,Nat.zero_add,Nat.reduceAdd,Qj,Nat.le_refl,List.take_zero,List.take_succ_cons,h',hH,j2,ih]
    | cons y l =>
     rw [if_neg (by simp),if_neg (by simp)] at ih ⊢
     simp (maxDischargeDepth := 9) only [Qah,Qab,Qbd,Qfm,Qfu,Qfb,Qel,Qef,Qed,Qcz,Qck,Qcj,Qhi,Qem,Qgh,Qbe,decide_true,Bool.not_false,List.drop_zero,List.length_cons,List.length_nil,Nat.zero_add,Nat.reduceAdd,Qj,Nat.le_refl,Nat.lt_add_one,List.take_zero,List.take_succ_cons,h',hH,j2]
     simp only [List.length_cons] at ih
     exact ih
   | true =>
    simp only [hx,if_true] at ihv
    rw [hx] at hH
    have hb : 0 ≤ (k : Int) ∧ (k : Int) ≤ 255 := by omega
    obtain ⟨e1,e2⟩ := QnW hb
    have bb : Zj [.int .i64 0,.int .i64 0] [(0,1),(1,1)] [(0,.int .i64 (k : Int)),(1,.int .i64 (k : Int))] = some (encR ((k : Int),(k : Int))) := by simp [splice,encR]
    have lt := fun z => W4.lit z ((k : Int),(k : Int))
    rcases List.eq_nil_or_concat l with rfl | ⟨l,y,rfl⟩
    ·have ih := ihv 0
     have hs0 : Z2 [] (k : Int) = [((k : Int),(k : Int))] := rfl
     rw [hs0,if_neg (by simp),if_neg (by simp)] at ih
     rw [if_pos rfl,if_pos rfl]
     have ap := fun G : Qa => W4.append_nil (O := H.length) (by_ := 16) (H := G) (a := ((k : Int),(k : Int))) (by decide)
     have ngt : ¬ (0 : Int) < 0 := by omega
     simp (maxDischargeDepth := 9) only [Qah,Qag,Qab,Qbd,Qbc,Qcf,Qfm,Qfq,Qfu,Qfa,Qel,Qef,Qed,Qcx,Qcz,Qcr,Qcj,Qhi,Qgg,decide_true,decide_false,Bool.not_true,List.drop_zero,List.length_cons,List.length_nil,Nat.zero_add,Nat.reduceAdd,Qj,Nat.le_refl,List.take_zero,List.take_succ_cons,h',hH,j2,bb,lt,ap,ngt]
     exact ih
    ·rw [List.concat_eq_append] at *
     rw [if_neg (by simp),if_neg (by simp)]
     have hgt : (0 : Int) < (((l ++ [y]).length : Nat) : Int) := by simp
     have w2 : IntKind.i64.wrap ((((l ++ [y]).length : Nat) : Int) - 1) = ((l.length : Nat) : Int) := by rw [wrap_i64 (by omega) (by omega)]; simp
     have ix := V5 (i := H.length + 1) (ver := ver) (sz := 2) (off := 0) (n := (l ++ [y]).length) (k := .i64) (j := l.length) (by simp)
     have dr := Qkm (l := l) (x := y)
     have dr1 : List.drop (l.length * 2 + 1) (ZK encR (l ++ [y])) = [.int .i64 y.2] := by rw [← List.drop_drop,dr]; rfl
     rw [Nat.zero_add] at ix
     by_cases hy : y.2 = (k : Int) - 1
     ·have hst : Z2 (l ++ [y]) (k : Int) = l ++ [(y.1,(k : Int))] := by simp [Z2,e1,hy]
      have ih := ihv ver
      rw [hst,if_neg (by simp),if_neg (by simp)] at ih
      have sp : splice (ZK encR (l ++ [y])) (l.length * 2 + 1) [.int .i64 (k : Int)] = ZK encR (l ++ [(y.1,(k : Int))]) := by
       rw [MZ,MZ,N9,N9]
       have : ZK encR l ++ (encR y).cells = (ZK encR l ++ [.int .i64 y.1]) ++ .int .i64 y.2 :: [] := by simp [encR]
       rw [this,Qh9 (by simp [W4.cellsF_length])]
       simp [encR]
      have hcl : (ZK encR (l ++ [y])).length = l.length * 2 + 2 := by rw [W4.cellsF_length]; simp; omega
      have hle : l.length * 2 + 1 + 1 ≤ l.length * 2 + 2 := by omega
      simp (maxDischargeDepth := 9) only [Qah,Qag,Qab,Qbd,Qbc,Qci,Qfm,Qfr,Qet,Qfu,Qfb,Qel,Qeb,Qef,Qed,Qcz,Qcy,Qhj,Qar,Qgo,Qgn,Qgs,Qdi,Qhg,Qck,Qcj,Qcn,Qhi,Qem,Qgh,Qbe,decide_true,Bool.not_true,if_true,List.drop_zero,List.length_cons,List.length_nil,Nat.zero_add,Bool.and_true,Nat.reduceAdd,Qj,Qz,Qu,Nat.le_refl,Nat.lt_add_one,Nat.zero_le,or_true,and_self,List.take_zero,List.take_succ_cons,h',hH,j2,hgt,w2,ix,dr1,e2,hy,sp,hcl,hle]
      simp only [List.length_append,List.length_cons,List.length_nil] at ih
      simp only [List.length_append,List.length_cons,List.length_nil]
      exact ih
     ·have hst : Z2 (l ++ [y]) (k : Int) = l ++ [y] ++ [((k : Int),(k : Int))] := by simp [Z2,e1,hy]
      have ih := ihv (ver + 1)
      rw [hst,if_neg (by simp),if_neg (by simp)] at ih
      have ap := fun G hg => W4.append (O := H.length) (by_ := 16) (i := H.length + 1) (ver := ver) (H := G) (l := l ++ [y]) (a := ((k : Int),(k : Int))) (n := (l ++ [y]).length) hg rfl (by simp [Yj] at hl ⊢; omega)
      simp (maxDischargeDepth := 9) only [Qah,Qag,Qab,Qbd,Qbc,Qci,Qfm,Qfr,Qet,Qfu,Qfb,Qel,Qeb,Qef,Qed,Qcz,Qcy,Qhj,Qar,Qgo,Qgn,Qgs,Qdi,Qhg,Qck,Qcj,Qcn,Qhi,Qgh,Qbe,decide_true,decide_false,Bool.not_true,List.drop_zero,List.length_cons,List.length_nil,Nat.zero_add,Bool.and_true,Nat.reduceAdd,Qj,Qz,Qu,Nat.le_refl,Nat.lt_add_one,Nat.zero_le,or_true,true_and,List.take_zero,List.take_succ_cons,h',hH,j2,hgt,w2,ix,dr1,e2,hy,bb,lt,ap]
      rw [List.length_append] at ih
      exact ih
  ·have h' : ¬ (k : Int) < 256 := by omega
   have e : s.rs = S4.rsTo s k := by rw [show k = 256 by omega]; rfl
   rw [e]
   generalize S4.rsTo s k = l at *
   cases l with
   | nil =>
    rw [if_pos rfl,if_pos rfl]
    simp (maxDischargeDepth := 9) only [Qah,Qbc,Qfm,Qfa,Qel,Qef,Qed,Qcx,Qcz,Qcr,Qcj,Qhi,Qem,Qgg,decide_false,List.drop_zero,List.length_cons,List.length_nil,Nat.zero_add,Nat.reduceAdd,Qj,Nat.le_refl,List.take_zero,List.take_succ_cons,h',List.map_nil]
   | cons y l =>
    rw [if_neg (by simp),if_neg (by simp)]
    have hf := W4.frz_row (H := .row ver 2 true (ZK encR (y :: l)) :: .var s.cs :: H) (O := H.length) (n := 10) (i := H.length + 1) (ver := ver) (l := y :: l) (m := (y :: l).length) (by simp) (by omega) rfl
    simp (maxDischargeDepth := 9) only [List.length_cons,Nat.reduceAdd,List.map_cons] at hf
    simp (maxDischargeDepth := 9) only [Qah,Qbc,Qfm,Qfb,Qel,Qef,Qed,Qcx,Qcz,Qdt,Qcr,Qck,Qcj,Qhi,Qem,Qgh,Qga,Qbe,decide_false,if_true,List.drop_zero,List.length_cons,List.length_nil,Nat.zero_add,Nat.reduceAdd,Qj,Qu,Nat.le_refl,Nat.lt_add_one,Nat.zero_le,List.take_zero,List.take_succ_cons,h',hf,List.map_cons]
theorem Qo4 {s : S4} (hs : s.ok) (H : Qa) : E DO [encS s] H = some (.ret (.vs (s.rs.map encR)),H) := by
 rw [Qll,Qkp]
 have k := QgQ hs (H := H) 256 0 rfl (by omega) 0
 have e : S4.rsTo s 0 = [] := rfl
 rw [e,if_pos rfl,if_pos rfl] at k
 simp only [Qam] at k
 simp (maxDischargeDepth := 9) only [Qag,Qan,Qgo,Qgn,Qgs,Qfv,Bool.and_true,k]
theorem Y8 {ks : List X} {j : Nat} (h : j < ks.length) (k : IntKind) : Qx 6 (.vs (Qw ks)) (.int k (j : Int)) = some (.fptr (Qd ks[j]).cells) :=
 GZ (y := Qd ks[j]) (by rw [WW]; simp [h]) (by simp)
theorem Rh (ks : List X) : QM (.vs (Qw ks)) = some (.int .i64 ks.length) := by rw [WW]; simp
theorem Zx (x : X) : ZJ true 6 (Qd x).cells = some (Qd x) := by simp [ZJ]
theorem QE (k : Int) (s : S4) (ks : List X) : Qd (.mk k s ks) = .agg [.int .i64 k,.int .u64 s.a,.int .u64 s.b,.int .u64 s.c,.int .u64 s.d,.vs (Qw ks)] := rfl
theorem QfJ {rs : List (Int × Int)} (hr : ∀ x ∈ rs,(0 ≤ x.1 ∧ x.1 ≤ 255) ∧ (0 ≤ x.2 ∧ x.2 ≤ 255)) (hn : rs.length ≤ 256) {H G : Qa} (hU : Up H G) : ∀ (m i : Nat),rs.length - i = m → i ≤ rs.length → ∀ acc : List UInt8,acc.length ≤ 8 * i →
  Pw H.length (.str acc) (.vs (rs.map encR)) (.int .i64 i) G = some (.ret (.str ([91] ++ (acc ++ Y4 (i == 0) ((rs.drop i).map Yp)) ++ [93])),H)
 | m,i,hm,hi,acc,hacc => by
  rw [Qmc]
  by_cases h : i < rs.length
  ·have h' : (i : Int) < (rs.length : Int) := by omega
   obtain ⟨m,rfl⟩ : ∃ j,m = j + 1 := ⟨m - 1,by omega⟩
   have hx := hr rs[i] (List.getElem_mem h)
   obtain ⟨t,u,ht,hu,lt,lu⟩ := AY hx
   have w1 : IntKind.i64.wrap ((i : Int) + 1) = ((i + 1 : Nat) : Int) := by rw [wrap_i64 (by omega) (by omega)]; omega
   have i1 := fun H => QaW hx.1 H
   have i2 := fun H => QaW hx.2 H
   rw [ht] at i1
   rw [hu] at i2
   have hp : Yp rs[i] = t ++ [45] ++ u := by unfold Yp; rw [ht,hu]
   have hc : (encR rs[i]).cells = [.int .i64 rs[i].1,.int .i64 rs[i].2] := rfl
   have ix := Ae h .i64
   rw [hc] at ix
   rw [List.drop_eq_getElem_cons h,List.map_cons,Y4,hp]
   have j2 : ∀ a : List UInt8,a.length ≤ 8 * i + 1 → Pd H.length (.str a) (.vs (rs.map encR)) (.int .i64 i) G = some (.ret (.str ([91] ++ (a ++ (t ++ [45] ++ u) ++ Y4 false ((rs.drop (i + 1)).map Yp)) ++ [93])),H) := fun a ha => by
    have ih := QfJ hr hn hU m (i + 1) (by omega) (by omega) (a ++ (t ++ [45] ++ u)) (by simp; omega)
    have c1 : Qb .add 6 (.str a) (.str t) = some (.str (a ++ t)) := Z3 _ _ _ (by omega)
    have c2 : Qb .add 6 (.str (a ++ t)) (.str [45]) = some (.str (a ++ t ++ [45])) := Z3 _ _ _ (by simp; omega)
    have c3 : Qb .add 6 (.str (a ++ t ++ [45])) (.str u) = some (.str (a ++ (t ++ [45] ++ u))) := by rw [Z3 _ _ _ (by simp; omega)]; simp
    have e0 : (i + 1 == 0) = false := by simp
    rw [e0] at ih
    rw [QlL]
    simp (maxDischargeDepth := 9) only [Qah,Qab,Qhd,Qgm,Qfh,Qhj,List.drop_zero,List.drop_succ_cons,List.length_cons,List.length_nil,Nat.zero_add,List.nil_append,List.cons_append,Nat.reduceAdd,Qu,Nat.le_refl,M1,ix,i1,i2,c1,c2,c3]
    rw [QnV]
    simp (maxDischargeDepth := 9) only [Qah,Qdx,w1]
    exact ih
   by_cases h0 : i = 0
   ·subst h0
    have q := j2 acc (by omega)
    simp only [Qam] at q
    have h0' : (0 : Int) < (rs.length : Int) := by omega
    simp (maxDischargeDepth := 9) only [Qah,Qbd,Qbc,Qfc,Qef,Qed,Qam,decide_true,decide_false,if_true,Nat.zero_add,List.nil_append,List.cons_append,beq_self_eq_true,List.length_map,h0',Qam,Int.lt_irrefl,q]
    simp
   ·have hp0 : (0 : Int) < (i : Int) := by omega
    have c1 : Qb .add 6 (.str acc) (.str [44]) = some (.str (acc ++ [44])) := Z3 _ _ _ (by simp; omega)
    have q := j2 (acc ++ [44]) (by simp; omega)
    have e0 : (i == 0) = false := by simp [h0]
    simp (maxDischargeDepth := 9) only [Qah,Qbd,Qfc,Qef,Qed,decide_true,if_false,Bool.false_eq_true,List.nil_append,List.cons_append,List.length_map,h',hp0,c1,e0]
    rw [q]
    simp
  ·have h' : ¬ (i : Int) < (rs.length : Int) := by omega
   rw [List.drop_of_length_le (by omega)]
   have c1 : Qb .add 6 (.str [91]) (.str acc) = some (.str ([91] ++ acc)) := Z3 _ _ _ (by simp; omega)
   have c2 : Qb .add 6 (.str ([91] ++ acc)) (.str [93]) = some (.str ([91] ++ acc ++ [93])) := Z3 _ _ _ (by simp; omega)
   have hT := hU.trunc
   simp only [List.cons_append,List.nil_append] at c1 c2
   simp (maxDischargeDepth := 9) only [Qah,Qbc,Qfc,Qef,Qed,Qgi,decide_false,List.append_nil,List.nil_append,List.cons_append,List.length_map,h',c1,c2,hT,List.map_nil,Y4]
theorem QfQ {k : Int} {s : S4} {ks : List X} (hk : ∀ x ∈ ks,∀ H,E K1 [Qd x] H = some (.ret (.str (txt x)),H)) (hn : Qk ks ≤ 900000000000) {H : Qa} : ∀ (m i : Nat),ks.length - i = m → i ≤ ks.length → ∀ acc : List UInt8,acc.length + (Yi [] false (ks.drop i)).length ≤ 100000000000000 →
  L9 H.length (.ptr H.length 0 0) (.str acc) (.int .i64 i) (.var (Qd (.mk k s ks)).cells :: H) = some (.ret (.str (acc ++ Yi [] false (ks.drop i) ++ [42])),H)
 | m,i,hm,hi,acc,hacc => by
  rw [QnS]
  have hls := Yq ks
  by_cases h : i < ks.length
  ·have h' : (i : Int) < (ks.length : Int) := by omega
   obtain ⟨m,rfl⟩ : ∃ j,m = j + 1 := ⟨m - 1,by omega⟩
   have w1 : IntKind.i64.wrap ((i : Int) + 1) = ((i + 1 : Nat) : Int) := by rw [wrap_i64 (by omega) (by omega)]; omega
   rw [List.drop_eq_getElem_cons h] at hacc ⊢
   simp only [Yi,Bool.false_eq_true,if_false,List.nil_append,List.length_append] at hacc ⊢
   have ht := hk ks[i] (List.getElem_mem h)
   have ih := QfQ (k := k) (s := s) hk hn (H := H) m (i + 1) (by omega) (by omega) (acc ++ txt ks[i]) (by simp; omega)
   have c1 : Qb .add 6 (.str acc) (.str (txt ks[i])) = some (.str (acc ++ txt ks[i])) := Z3 _ _ _ (by omega)
   have ix := Y8 h .i64
   rw [QE] at ih ⊢
   simp (maxDischargeDepth := 9) only [Qah,Qab,Qbd,Qet,Qfc,Qdx,Qef,Qcz,Qfh,Qhj,Qan,Qcj,Qhi,Qbp,Qbg,Qbf,Qbo,decide_true,List.drop_zero,List.drop_succ_cons,Nat.zero_add,Qj,Nat.le_refl,Rh,h',ix,Zx,ht,c1,w1] at ih ⊢
   rw [ih]
   simp
  ·have h' : ¬ (i : Int) < (ks.length : Int) := by omega
   rw [List.drop_of_length_le (by omega)] at hacc ⊢
   simp only [Yi,List.length_nil] at hacc
   have c1 : Qb .add 6 (.str acc) (.str [42]) = some (.str (acc ++ [42])) := Z3 _ _ _ (by simp; omega)
   rw [QE]
   simp (maxDischargeDepth := 9) only [Qah,Qbc,Qet,Qfc,Qdx,Qef,Qcx,Qcz,Qhj,Qgi,Qan,Qcr,Qcj,Qbp,decide_false,List.drop_zero,List.drop_succ_cons,Nat.zero_add,List.append_nil,Qj,Nat.le_refl,Rh,h',c1,Yi]
theorem Qb9 {k : Int} (k5 : k ≠ 5) {s : S4} {ks : List X} (hk : ∀ x ∈ ks,∀ H,E K1 [Qd x] H = some (.ret (.str (txt x)),H)) (hn : Qk ks ≤ 900000000000) {H : Qa} : ∀ (m i : Nat),ks.length - i = m → i ≤ ks.length → ∀ acc : List UInt8,acc.length + (Yi (txB k).1 (i == 0) (ks.drop i)).length ≤ 100000000000000 →
  LG H.length (.ptr H.length 0 0) (.str acc) (.int .i64 i) (.var (Qd (.mk k s ks)).cells :: H) = some (.ret (.str ((txB k).2.1 ++ (acc ++ Yi (txB k).1 (i == 0) (ks.drop i)) ++ (txB k).2.2)),H)
 | m,i,hm,hi,acc,hacc => by
  rw [QmY]
  have hls := Yq ks
  by_cases h : i < ks.length
  ·have h' : (i : Int) < (ks.length : Int) := by omega
   obtain ⟨m,rfl⟩ : ∃ j,m = j + 1 := ⟨m - 1,by omega⟩
   have w1 : IntKind.i64.wrap ((i : Int) + 1) = ((i + 1 : Nat) : Int) := by rw [wrap_i64 (by omega) (by omega)]; omega
   have ht := hk ks[i] (List.getElem_mem h)
   have ix := Y8 h .i64
   rw [List.drop_eq_getElem_cons h] at hacc ⊢
   simp only [Yi,List.length_append] at hacc ⊢
   have ihv := fun a ha => Qb9 k5 (s := s) hk hn (H := H) m (i + 1) (by omega) (by omega) a ha
   rw [show (i + 1 == 0) = false by simp] at ihv
   have j6 : ∀ a : List UInt8,a.length + (txt ks[i]).length + (Yi (txB k).1 false (ks.drop (i + 1))).length ≤ 100000000000000 → PV H.length (.ptr H.length 0 0) (.str a) (.int .i64 i) (.var (Qd (.mk k s ks)).cells :: H) = some (.ret (.str ((txB k).2.1 ++ (a ++ txt ks[i] ++ Yi (txB k).1 false (ks.drop (i + 1))) ++ (txB k).2.2)),H) := fun a ha => by
    have c1 : Qb .add 6 (.str a) (.str (txt ks[i])) = some (.str (a ++ txt ks[i])) := Z3 _ _ _ (by omega)
    have ih := ihv (a ++ txt ks[i]) (by simp; omega)
    rw [Qmd]
    rw [QE] at ih ⊢
    simp only [Qah,Qab,Qet,Qcz,Qfh,Qhj,Qan,Qcj,Qhi,Qbg,Qbf,Qbo,List.drop_zero,List.drop_succ_cons,Nat.zero_add,Qj,Nat.le_refl,ix,Zx,ht,c1] at ih ⊢
    rw [QoJ]
    simp only [Qah,Qdx,w1]
    rw [ih]
   by_cases h0 : i = 0
   ·subst h0
    have q := j6 acc (by simp only [beq_self_eq_true,if_true,List.length_nil] at hacc; omega)
    have h0' : (0 : Int) < (ks.length : Int) := by omega
    rw [QE] at q ⊢
    simp only [Qam,Qan,Qam,Nat.zero_add] at q
    simp only [Qah,Qbd,Qbc,Qcf,Qfq,Qet,Qfc,Qeb,Qef,Qed,Qcz,Qhj,Qan,Qam,Qcj,Qbp,decide_true,decide_false,if_true,List.drop_zero,List.drop_succ_cons,Nat.add_zero,Nat.zero_add,List.nil_append,beq_self_eq_true,Qj,Qam,h0',Int.lt_irrefl,q,List.append_assoc]
   ·have hp0 : (0 : Int) < (i : Int) := by omega
    have e0 : (i == 0) = false := by simp [h0]
    rw [e0] at hacc ⊢
    simp only [Bool.false_eq_true,if_false] at hacc ⊢
    by_cases h3 : k = 3
    ·subst h3
     have q := j6 acc (by omega)
     have e : (txB 3).1 = [] := rfl
     rw [QE] at q ⊢
     simp only [Qan] at q
     simp only [Qah,Qbd,Qbc,Qci,Qfr,Qet,Qfc,Qeb,Qeh,Qef,Qed,Qcz,Qhj,Qan,Qcj,Qbp,decide_true,Bool.not_true,List.drop_zero,List.drop_succ_cons,Nat.add_zero,Nat.zero_add,List.nil_append,Qj,h',hp0,q,e,List.append_assoc]
    ·have e : (txB k).1 = [124] := by simp [txB,k5,h3]
     rw [e] at hacc j6 ⊢
     have c1 : Qb .add 6 (.str acc) (.str [124]) = some (.str (acc ++ [124])) := Z3 _ _ _ (by simp at hacc ⊢; omega)
     have q := j6 (acc ++ [124]) (by simp at hacc ⊢; omega)
     rw [QE] at q ⊢
     simp only [Qan] at q
     simp only [Qah,Qbd,Qbc,Qci,Qfr,Qet,Qfc,Qeb,Qeh,Qef,Qed,Qcz,Qhj,Qan,Qcj,Qbp,decide_true,decide_false,Bool.not_false,List.drop_zero,List.drop_succ_cons,Nat.add_zero,Nat.zero_add,List.nil_append,List.cons_append,Qj,h',hp0,h3,c1,q]
     simp
  ·have h' : ¬ (i : Int) < (ks.length : Int) := by omega
   rw [List.drop_of_length_le (by omega)] at hacc ⊢
   simp only [Yi,List.length_nil,Nat.add_zero,List.append_nil] at hacc ⊢
   rw [QE]
   by_cases h3 : k = 3
   ·subst h3
    have c1 : Qb .add 6 (.str [40]) (.str acc) = some (.str ([40] ++ acc)) := Z3 _ _ _ (by simp; omega)
    have c2 : Qb .add 6 (.str ([40] ++ acc)) (.str [41]) = some (.str ([40] ++ acc ++ [41])) := Z3 _ _ _ (by simp; omega)
    simp only [List.cons_append,List.nil_append] at c1 c2
    simp only [Qah,Qbd,Qbc,Qet,Qfc,Qeb,Qef,Qed,Qcx,Qcz,Qhj,Qgi,Qan,Qcr,Qcj,Qbp,decide_true,decide_false,List.drop_zero,List.drop_succ_cons,Nat.add_zero,Nat.zero_add,Qj,Nat.le_refl,h',c1,c2]
    rfl
   ·have c1 : Qb .add 6 (.str [123]) (.str acc) = some (.str ([123] ++ acc)) := Z3 _ _ _ (by simp; omega)
    have c2 : Qb .add 6 (.str ([123] ++ acc)) (.str [125]) = some (.str ([123] ++ acc ++ [125])) := Z3 _ _ _ (by simp; omega)
    have e : txB k = ([124],[123],[125]) := by simp [txB,k5,h3]
    simp only [List.cons_append,List.nil_append] at c1 c2
    simp only [Qah,Qbc,Qet,Qfc,Qeb,Qef,Qed,Qcx,Qcz,Qhj,Qgi,Qan,Qcr,Qcj,Qbp,decide_false,List.drop_zero,List.drop_succ_cons,Nat.add_zero,Nat.zero_add,List.nil_append,List.cons_append,Qj,Nat.le_refl,h',h3,c1,c2,e]
theorem FA : ∀ (n : Nat) (x : X),x.size ≤ n → n ≤ 900000000000 → x.ok → ∀ H,E K1 [Qd x] H = some (.ret (.str (txt x)),H)
 | 0,x,h,_,_,_ => by have := Yl x; omega
 | n + 1,.mk k s ks,h,hn,hok,H => by
  have hsz : Qk ks ≤ n := by simp only [X.size] at h; omega
  have hk : ∀ x ∈ ks,∀ H,E K1 [Qd x] H = some (.ret (.str (txt x)),H) := fun x hx H => FA n x (Nat.le_trans (Yv hx) hsz) (by omega) (Rv.1 hok.2 x hx) H
  rw [QkR,QnG]
  by_cases k0 : k = 0
  ·subst k0
   rw [QE]
   simp only [Qah,Qag,Qbd,Qet,Qeb,Qcx,Qcz,Qhj,Qgi,Qan,Qgo,Qgn,Qgs,Qhc,Qcr,Qcj,Qfv,Qhi,decide_true,if_true,List.drop_zero,List.drop_succ_cons,List.length_cons,List.length_nil,Nat.add_zero,Nat.zero_add,Bool.and_true,Nat.reduceAdd,Qj,Qu,Nat.le_refl,List.take_zero,List.take_succ_cons,txt]
  ·by_cases k1 : k = 1
   ·subst k1
    rw [QE]
    simp only [Qah,Qag,Qbd,Qbc,Qet,Qeb,Qcx,Qcz,Qhj,Qgi,Qan,Qgo,Qgn,Qgs,Qhc,Qcr,Qcj,Qfv,Qhi,decide_true,decide_false,if_true,if_false,List.drop_zero,List.drop_succ_cons,List.length_cons,List.length_nil,Nat.add_zero,Nat.zero_add,Bool.and_true,Nat.reduceAdd,Qj,Qu,Nat.le_refl,List.take_zero,List.take_succ_cons,txt,k0]
   ·by_cases k2 : k = 2
    ·subst k2
     have hr := fun H => Qo4 hok.1.1 H
     have l := QfJ (rs := s.rs) s.rs_mem s.rs_len (H := H) (G := .var (Qd (.mk 2 s ks)).cells :: H) ((Up.refl H).cons _) s.rs.length 0 rfl (Nat.zero_le _) [] (by simp)
     rw [QE] at l ⊢
     simp only [Qam,Qan,Qam,List.drop_zero,List.nil_append,List.cons_append,beq_self_eq_true] at l
     simp only [Qah,Qag,Qab,Qbd,Qbc,Qet,Qeb,Qcx,Qcz,Qhj,Qgi,Qan,Qgo,Qgn,Qgs,Qhc,Qcr,Qcj,Qfv,Qhi,decide_true,decide_false,if_true,if_false,List.drop_zero,List.drop_succ_cons,List.length_cons,List.length_nil,Nat.add_zero,Nat.zero_add,Bool.and_true,List.nil_append,List.cons_append,Nat.reduceAdd,Qj,Qu,Nat.le_refl,List.take_zero,List.take_succ_cons,txt,k0,k1,hr,l,U5]
    ·by_cases k5 : k = 5
     ·subst k5
      have hb := GP [] (by simp) hok.2 false
      have l := QfQ (k := 5) (s := s) hk (by omega) (H := H) ks.length 0 rfl (Nat.zero_le _) [] (by simp; omega)
      have e : Yi [] false ks = Yi [] true ks := by cases ks <;> simp [Yi]
      rw [QE] at l ⊢
      simp only [Qam,Qan,Qam,List.drop_zero,List.nil_append] at l
      simp only [Qah,Qag,Qbd,Qbc,Qet,Qeb,Qcx,Qcz,Qhj,Qgi,Qan,Qgo,Qgn,Qgs,Qhc,Qcr,Qcj,Qfv,Qhi,decide_true,decide_false,if_true,if_false,List.drop_zero,List.drop_succ_cons,List.length_cons,List.length_nil,Nat.add_zero,Nat.zero_add,Bool.and_true,List.nil_append,Nat.reduceAdd,Qj,Qu,Nat.le_refl,List.take_zero,List.take_succ_cons,txt,k0,k1,k2,l,txB,e]
     ·have hb := GP (txB k).1 (EK k).1 hok.2 true
      have l := Qb9 k5 (s := s) hk (by omega) (H := H) ks.length 0 rfl (Nat.zero_le _) [] (by simp; omega)
      rw [QE] at l ⊢
      simp only [Qam,Qan,Qam,List.drop_zero,List.nil_append,beq_self_eq_true] at l
      simp only [Qah,Qag,Qbc,Qet,Qeb,Qcx,Qcz,Qhj,Qgi,Qan,Qgo,Qgn,Qgs,Qhc,Qcr,Qcj,Qfv,Qhi,decide_false,if_false,List.drop_zero,List.drop_succ_cons,List.length_cons,List.length_nil,Nat.add_zero,Nat.zero_add,Bool.and_true,Nat.reduceAdd,Qj,Qu,Nat.le_refl,List.take_zero,List.take_succ_cons,txt,k0,k1,k2,k5,l]
theorem QaM : ∀ (n : Nat) (x : X),x.size ≤ n → n ≤ 900000000000 → x.ok → oTx E Uj n (Qd x) = some (txt x)
 | 0,x,h,_,_ => by have := Yl x; omega
 | n + 1,.mk k s ks,h,hn,hok => by
  have hsz : Qk ks ≤ n := by simp only [X.size] at h; omega
  have hk : ∀ x ∈ ks,oTx E Uj n (Qd x) = some (txt x) := fun x hx => QaM n x (Nat.le_trans (Yv hx) hsz) (by omega) (Rv.1 hok.2 x hx)
  have hL : ∀ (l : List X) (sep : List UInt8) (b : Bool),(∀ x ∈ l,oTx E Uj n (Qd x) = some (txt x)) → Jn (oTx E Uj n) sep b (Qw l) = some (Yi sep b l) := by
   intro l sep
   induction l with
   | nil => intro b _; rfl
   | cons y l ih =>
    intro b hy
    simp only [Qw,Jn,hy y List.mem_cons_self,ih false (fun x hx => hy x (List.mem_cons_of_mem _ hx)),Option.bind_some,Yi]
  have hls := Yq ks
  have hle : (Qw ks).length ≤ 4611686018427387904 := by simp; omega
  have Qn := Qjt hok.1.1 []
  simp only [Qd,oTx,txt]
  by_cases k0 : k = 0
  ·simp only [k0,if_true]
  ·by_cases k1 : k = 1
   ·simp only [k1,if_true,show ¬ (1 : Int) = 0 by decide,if_false]
   ·by_cases k2 : k = 2
    ·simp only [k2,if_true,show ¬ (2 : Int) = 0 by decide,show ¬ (2 : Int) = 1 by decide,if_false]
     simp only [encS,S4.cs] at Qn
     rw [Qn]; rfl
    ·simp only [k0,k1,k2,if_false,hle,if_true,hL ks _ _ hk,Option.bind_some]
theorem PW {x : X} (hx : x.size ≤ 900000000000) (hok : x.ok) (H : Qa) : E Quc [Qd x] H = some (.ret (.str (txt x)),H) := by
 have h := QaM 900000000000 x hx (Nat.le_refl _) hok
 have hl := Xs hok
 have e : txt x = txt x := rfl
 have hle : (txt x).length ≤ 100000000000000 := by omega
 rw [show E = EV Tryd.prog YW D from rfl,QiJ (g := Ua Uj) rfl]
 rw [show E = EV Tryd.prog YW D from rfl] at h
 unfold Ua
 simp only [Ub,h,Option.bind_some,hle,if_true]
abbrev Q9 (ver : Nat) (l : List X) (rest : List V) : Blk := .row ver 6 true (Qy l ++ rest)
theorem Z8 (l : List X) : (Qy l).length = l.length * 6 := Z0.cellsF_length l
theorem B5 (l m : List X) : Qy (l ++ m) = Qy l ++ Qy m := MZ Qd l m
theorem PC {l : List X} {j : Nat} (h : j < l.length) (rest : List V) : (Qy l ++ rest).drop (j * 6) = (Qd l[j]).cells ++ (Qy (l.drop (j + 1)) ++ rest) := by
 have e : l = l.take j ++ l[j] :: l.drop (j + 1) := by rw [List.getElem_cons_drop]; simp
 have e2 : Qy l = Qy (l.take j) ++ ((Qd l[j]).cells ++ Qy (l.drop (j + 1))) := by
  conv => lhs; rw [e]
  rw [B5]; rfl
 rw [e2,List.append_assoc,List.drop_append_of_le_length (by rw [Z8,List.length_take]; omega),List.drop_of_length_le (by rw [Z8,List.length_take]; omega),List.nil_append,List.append_assoc]
theorem take_at {l : List X} {j : Nat} (h : j < l.length) (rest : List V) : ZJ true 6 ((Qy l ++ rest).drop (j * 6)) = some (Qd l[j]) := by
 rw [PC h]
 simp only [ZJ,if_true]
 rw [if_pos (by simp only [List.length_append,Qbg]; omega),List.take_append_of_le_length (by simp),Qbo,Qbf]
theorem Qb5 {l : List X} {j : Nat} (h : j < l.length) (rest : List V) (x : X) : splice (Qy l ++ rest) (j * 6) (Qd x).cells = Qy (l.set j x) ++ rest := by
 have e : l.set j x = l.take j ++ x :: l.drop (j + 1) := by rw [List.set_eq_take_append_cons_drop,if_pos h]
 have h1 : (Qy l ++ rest).take (j * 6) = Qy (l.take j) := by
  have e1 : Qy l = Qy (l.take j) ++ Qy (l.drop j) := by rw [← B5,List.take_append_drop]
  rw [e1,List.append_assoc,List.take_append_of_le_length (by rw [Z8,List.length_take]; omega),List.take_of_length_le (by rw [Z8,List.length_take]; omega)]
 have h2 : (Qy l ++ rest).drop (j * 6 + 6) = Qy (l.drop (j + 1)) ++ rest := by
  rw [← List.drop_drop,PC h,List.drop_append_of_le_length (by simp),Qbh,List.nil_append]
 unfold splice
 rw [h1,Qbg,h2,e,B5]
 have : Qy (x :: l.drop (j + 1)) = (Qd x).cells ++ Qy (l.drop (j + 1)) := rfl
 rw [this]
 simp only [List.append_assoc]
inductive Sl (H : Qa) : V → List X → Prop where
 | nils : Sl H .nils []
 | vs (l : List X) : Sl H (.vs (Qw l)) l
 | rs (i ver : Nat) (l : List X) (rest : List V) (h : Qh H i = some (Q9 ver l rest)) : Sl H (.rs i ver 6 0 l.length) l
theorem Sl.up {H G : Qa} {v : V} {l : List X} (h : Sl H v l) (hU : Up H G) : Sl G v l := by
 cases h with
 | nils => exact .nils
 | vs => exact .vs _
 | rs i ver l rest h => exact .rs i ver l rest (by rw [hU.get (Q4 h)]; exact h)
theorem Sl.len {H : Qa} {v : V} {l : List X} (h : Sl H v l) : QM v = some (.int .i64 l.length) := by
 cases h with
 | nils => simp
 | vs => simp
 | rs => simp
theorem Sl.at {H : Qa} {v : V} {l : List X} (h : Sl H v l) {j : Nat} (hj : j < l.length) : ∃ p p0 p5,Qx 6 v (.int .i64 (j : Int)) = some p ∧ Qc true 6 H p = some (Qd l[j]) ∧
  Qq p 0 = some p0 ∧ Qc false 1 H p0 = some (.int .i64 l[j].k) ∧ Qq p 5 = some p5 ∧ Qc false 1 H p5 = some (.vs (Qw l[j].ks)) := by
 have hx : ∃ k s ks,l[j] = .mk k s ks := by cases l[j] with | mk k s ks => exact ⟨k,s,ks,rfl⟩
 cases h with
 | nils => simp at hj
 | vs =>
  refine ⟨_,_,_,Y8 hj .i64,by simp [Zx],M1 _ 0 (by simp),?_,M1 _ 5 (by simp),?_⟩
  ·obtain ⟨k,s,ks,e⟩ := hx
   rw [e]
   simp [QE,X.k]
  ·obtain ⟨k,s,ks,e⟩ := hx
   rw [e]
   simp [QE,X.ks]
 | rs i ver l rest h =>
  refine ⟨_,_,_,V5 hj,by rw [Qj,h,Nat.zero_add,Qcy,take_at hj],Qet _ _ _ _,?_,Qet _ _ _ _,?_⟩
  ·rw [Qj,h,Nat.zero_add,Qcy,Nat.add_zero,PC hj]
   obtain ⟨k,s,ks,e⟩ := hx
   rw [e]
   simp [QE,X.k]
  ·rw [Qj,h,Nat.zero_add,Qcy,← List.drop_drop,PC hj]
   obtain ⟨k,s,ks,e⟩ := hx
   rw [e]
   simp [QE,X.ks]
inductive Out7 (O : Nat) (H : Qa) : V → List X → Prop where
 | nils : Out7 O H .nils []
 | rs (i ver : Nat) (l : List X) (hb : O ≤ i) (h : Qh H i = some (.row ver 6 true (Qy l))) : Out7 O H (.rs i ver 6 0 l.length) l
theorem Out7.up {O : Nat} {H G : Qa} {v : V} {l : List X} (h : Out7 O H v l) (hU : Up H G) : Out7 O G v l := by
 cases h with
 | nils => exact .nils
 | rs i ver l hb h => exact .rs i ver l hb (by rw [hU.get (Q4 h)]; exact h)
theorem Out7.sl {O : Nat} {H : Qa} {v : V} {l : List X} (h : Out7 O H v l) : Sl H v l := by
 cases h with
 | nils => exact .nils
 | rs i ver l hb h => exact .rs i ver l [] (by rw [h]; simp [Q9])
theorem X3 (m : List X) : Yz 6 (Qw m) = true := by
 induction m with
 | nil => rfl
 | cons x m ih => simp only [Qw,Yz,Qbg,ih]; rfl
theorem Eu (m : List X) : flat (Qw m) = Qy m := by rw [WW]; rfl
theorem Qi8 (m : List X) : QX (Qy m) = 0 := Dq (Z0.cellsF_clean m) (Z0.cellsF_plain m)
theorem Out7.appB {H G : Qa} {v : V} {l : List X} {b : Nat} (hB : b ≤ H.length) (h : Out7 H.length G v l) (hU : Up H G) (m : List X) (hn : (l ++ m).length ≤ 1000000000000) :
  ∃ v' G',Z1 b 6 64 true v (.vs (Qw m)) G = some (v',G') ∧ Out7 H.length G' v' (l ++ m) ∧ Up H G' := by
 have hs := Z0.cellsF_scal m
 have hl := Z8 m
 have hmr := Qi8 m
 have ha := X3 m
 have hf := Eu m
 rw [List.length_append] at hn
 cases h with
 | nils =>
  rw [W6]
  by_cases h0 : m.length = 0
  ·have hm : m = [] := List.length_eq_zero_iff.1 h0
   subst hm
   exact ⟨.nils,G,by simp [WG,ZB,ZM,Yz,flat,Qw,JR],.nils,hU⟩
  ·refine ⟨.rs G.length 0 6 0 m.length,.row 0 6 true (Qy m) :: G,?_,.rs G.length 0 m hU.len (by simp),hU.cons _⟩
   have hr : Yj m.length 64 = true := by simp [Yj]; omega
   simp [WG,ZB,ZM,ha,hf,hs,hl,JR,h0,hr]
 | rs i ver l hb hg =>
  rw [W6]
  have hr : Yj (l.length + m.length) 64 = true := by simp [Yj]; omega
  have hbi : b ≤ i := Nat.le_trans hB hb
  have hfit : fits b i (QX (Qy m)) = true := by simp [fits,hbi]
  by_cases h0 : m.length = 0
  ·have hm : m = [] := List.length_eq_zero_iff.1 h0
   subst hm
   refine ⟨.rs i ver 6 0 l.length,G,?_,by rw [List.append_nil]; exact .rs i ver l hb hg,hU⟩
   simp only [List.length_nil,Nat.add_zero] at hr
   have hcl := Z8 l
   have hss := Va hg
   have hc0 : Qw [] = [] := rfl
   have hf0 : fits b i 0 = true := by simp [fits]
   have ht : List.take (l.length * 6) (Qy l) = Qy l := List.take_of_length_le (by omega)
   have hd : List.drop (l.length * 6) (Qy l) = [] := List.drop_of_length_le (by omega)
   simp only [hc0,WG,ZB,ZM,Yz,if_true,flat,JR,Qv,QX,hg,hr,hf0,hcl,List.length_nil,Option.bind_some,Nat.zero_mul,Nat.add_zero,Nat.zero_add,and_self,Nat.le_refl,splice,ht,hd,List.append_nil,hss,Nat.reduceLT]
  ·have hcl := Z8 l
   refine ⟨.rs i (ver + 1) 6 0 (l ++ m).length,Qn G i (.row (ver + 1) 6 true (Qy (l ++ m))),?_,.rs i (ver + 1) (l ++ m) hb (by simp [Q4 hg]),hU.set hb _⟩
   have h1 : ¬ (l.length + m.length) * 6 ≤ l.length * 6 := by omega
   have h2 : List.take (l.length * 6) (Qy l) = Qy l := List.take_of_length_le (by omega)
   simp only [WG,ZB,ZM,ha,hf,hs,hl,JR,hg,hr,hfit,hcl,if_true,Option.bind_some,Qbp,Nat.zero_add,and_self,Nat.le_refl,h1,if_false,h2,B5,List.length_append,Nat.reduceLT]
theorem Out7.app {H G : Qa} {v : V} {l : List X} (h : Out7 H.length G v l) (hU : Up H G) (m : List X) (hn : (l ++ m).length ≤ 1000000000000) :
  ∃ v' G',Z1 H.length 6 64 true v (.vs (Qw m)) G = some (v',G') ∧ Out7 H.length G' v' (l ++ m) ∧ Up H G' := h.appB (Nat.le_refl _) hU m hn
theorem Nw (O : Nat) (v : V) (H : Qa) : rt true O v H = if v.maxRef ≤ O then some (.ret v,Q2 H O) else some (.ret v,H) := by
 rw [Ly]
 simp only [U9,YF,if_true]
 split <;> rfl
theorem Sl.k0 {H : Qa} {v : V} {l : List X} (h : Sl H v l) {i : Nat} (hi : ¬ i < l.length) : ¬ (i : Int) < (l.length : Int) := by omega
theorem CQ {k : Int} {H0 : Qa} {v : V} {l : List X} (hv : Sl H0 v l) (hn : (flatK k l).length ≤ 1000000000000) (hl : l.length ≤ 1000000000000) : ∀ (m i : Nat),l.length - i = m → i ≤ l.length → ∀ (o : V) (G : Qa),Out7 H0.length G o (flatK k (l.take i)) → Up H0 G →
  ∃ v' G',Eb H0.length (.int .i64 k) o v (.int .i64 l.length) (.int .i64 i) G = some (.ret v',G') ∧ Out7 H0.length G' v' (flatK k l) ∧ Up H0 G'
 | m,i,hm,hi,o,G,ho,hU => by
  rw [Qmk]
  by_cases h : i < l.length
  ·have h' : (i : Int) < (l.length : Int) := by omega
   obtain ⟨m,rfl⟩ : ∃ j,m = j + 1 := ⟨m - 1,by omega⟩
   have w1 : IntKind.i64.wrap ((i : Int) + 1) = ((i + 1 : Nat) : Int) := by rw [wrap_i64 (by omega) (by omega)]; omega
   obtain ⟨p,p0,p5,q1,q2,-⟩ := (hv.up hU).at h
   have hs := QbB (k := k) h
   have hln := XP (k := k) l (i + 1)
   have hG1 := hU.cons (.var (Qd l[i]).cells)
   have ho1 := ho.up ((Up.refl G).cons (.var (Qd l[i]).cells))
   obtain ⟨kk,s,ks,e⟩ : ∃ k s ks,l[i] = .mk k s ks := by cases l[i] with | mk k s ks => exact ⟨k,s,ks,rfl⟩
   rw [hs] at hln
   by_cases hk : l[i].k = k
   ·rw [if_pos hk] at hs hln
    obtain ⟨v1,G1,a1,a2,a3⟩ := ho1.app hG1 l[i].ks (by omega)
    rw [← hs] at a2
    obtain ⟨v',G',ih,b1,b2⟩ := CQ hv hn hl m (i + 1) (by omega) (by omega) v1 G1 a2 a3
    refine ⟨v',G',?_,b1,b2⟩
    rw [e] at hk a1 q2
    simp only [X.k] at hk
    subst hk
    simp only [X.ks] at a1
    rw [QE] at a1 q2
    have j2 : R4 H0.length (.int .i64 kk) v1 v (.int .i64 l.length) (.int .i64 i) G1 = some (.ret v',G') := by
     rw [Qhw]; simp only [Qah,Qdx,w1,ih]
    simp only [Qan] at a1
    simp only [Qah,Qag,Qbd,Qet,Qeb,Qef,Qcz,Qhj,Qan,Qgo,Qgn,Qgs,Qgy,Qhc,Qdi,Qdt,Qde,Qdd,Qdc,Qhh,Qhf,Qcj,Qcn,Qfv,Qhi,decide_true,if_true,List.drop_zero,List.drop_succ_cons,List.length_cons,List.length_nil,Nat.add_zero,Nat.zero_add,Bool.and_true,List.append_nil,Nat.reduceAdd,Qj,Qz,List.drop_nil,Qu,Nat.le_refl,Nat.zero_le,or_true,and_self,Nat.max_self,List.take_zero,List.take_succ_cons,h',q1,q2,a1,j2]
   ·rw [if_neg hk] at hs hln
    obtain ⟨v1,G1,a1,a2,a3⟩ := ho1.app hG1 [l[i]] (by omega)
    rw [← hs] at a2
    obtain ⟨v',G',ih,b1,b2⟩ := CQ hv hn hl m (i + 1) (by omega) (by omega) v1 G1 a2 a3
    refine ⟨v',G',?_,b1,b2⟩
    have lt := Qfe (.agg [.int .i64 0,.int .u64 0,.int .u64 0,.int .u64 0,.int .u64 0,.vs []]) l[i]
    rw [e] at hk a1 q2 lt
    simp only [X.k] at hk
    rw [QE] at q2 lt
    simp only [Qw,QE] at a1
    have j2 : R4 H0.length (.int .i64 k) v1 v (.int .i64 l.length) (.int .i64 i) G1 = some (.ret v',G') := by
     rw [Qhw]; simp only [Qah,Qdx,w1,ih]
    simp only [Qan] at a1
    simp only [Qah,Qag,Qbd,Qbc,Qet,Qeb,Qef,Qcz,Qhj,Qan,Qgo,Qgn,Qgs,Qgy,Qhc,Qdi,Qdt,Qde,Qdd,Qdc,Qhh,Qhf,Qcj,Qcn,Qfv,Qhi,decide_true,decide_false,if_true,List.drop_zero,List.drop_succ_cons,List.length_cons,List.length_nil,Nat.add_zero,Nat.zero_add,Bool.and_true,List.append_nil,Nat.reduceAdd,Qj,Qz,List.drop_nil,Qu,Nat.le_refl,Nat.zero_le,or_true,and_self,Nat.max_self,List.take_zero,List.take_succ_cons,h',q1,q2,hk,lt,a1,j2]
  ·have h' : ¬ (i : Int) < (l.length : Int) := by omega
   rw [List.take_of_length_le (by omega)] at ho
   simp only [Qah,Qag,Qbc,Qet,Qef,Qan,Qgo,Qgn,Qgs,Qgy,Qhh,Qhf,Qcj,Qcn,Qfv,decide_false,List.length_cons,List.length_nil,Nat.add_zero,Nat.zero_add,Bool.and_true,Nat.reduceAdd,Qj,Qz,Nat.le_refl,and_true,and_self,h']
   clear hn
   generalize flatK k l = fl at ho ⊢
   cases ho with
   | nils => exact ⟨.nils,Q2 G H0.length,by rw [Nw,if_pos (by simp [V.maxRef])],.nils,by rw [hU.trunc]; exact Up.refl _⟩
   | rs j ver l hb hg => exact ⟨_,G,by rw [Nw,if_neg (by simp [V.maxRef]; omega)],.rs j ver _ hb hg,hU⟩
theorem QeJ {k : Int} {H : Qa} {v : V} {l : List X} (hv : Sl H v l) (hn : (flatK k l).length ≤ 1000000000000) (hl : l.length ≤ 1000000000000) :
  ∃ v' G',E LR [v,.int .i64 k] H = some (.ret v',G') ∧ Out7 H.length G' v' (flatK k l) ∧ Up H G' := by
 obtain ⟨v',G',h1,h2,h3⟩ := CQ (k := k) hv hn hl l.length 0 rfl (Nat.zero_le _) .nils H .nils (Up.refl H)
 refine ⟨v',G',?_,h2,h3⟩
 simp only [Qam] at h1
 rw [Qml,QoR]
 simp only [Qah,hv.len,h1]
theorem Out7.ret {H G : Qa} {v : V} {l : List X} (h : Out7 H.length G v l) (hU : Up H G) : rt false H.length v G = some (.ret (.vs (Qw l)),H) := by
 cases h with
 | nils => rw [Qgg,hU.trunc]; rfl
 | rs i ver l hb hg =>
  have hf := Z0.frz_row (H := G) (O := H.length) (n := 10) (i := i) (ver := ver) (l := l) (m := l.length) hg hb rfl
  rw [Qgh,Qbe,hf,Qga,if_pos (by simp [V.maxRef]),hU.trunc,WW]
theorem CO {k : Int} {H0 : Qa} {v : V} {l : List X} (hv : Sl H0 v l) (hn : (flatK k l).length ≤ 1000000000000) (hl : l.length ≤ 1000000000000) : ∀ (m i : Nat),l.length - i = m → i ≤ l.length → ∀ (o : V) (G : Qa),Out7 H0.length G o (flatK k (l.take i)) → Up H0 G →
  NC H0.length v (.int .i64 k) o (.int .i64 i) G = some (.ret (.vs (Qw (flatK k l))),H0)
 | m,i,hm,hi,o,G,ho,hU => by
  rw [Qj9]
  by_cases h : i < l.length
  ·have h' : (i : Int) < (l.length : Int) := by omega
   obtain ⟨m,rfl⟩ : ∃ j,m = j + 1 := ⟨m - 1,by omega⟩
   have w1 : IntKind.i64.wrap ((i : Int) + 1) = ((i + 1 : Nat) : Int) := by rw [wrap_i64 (by omega) (by omega)]; omega
   obtain ⟨p,p0,p5,q1,q2,q3,q4,q5,q6⟩ := (hv.up hU).at h
   have hs := QbB (k := k) h
   have hln := XP (k := k) l (i + 1)
   rw [hs] at hln
   have j2 : ∀ v1 G1,NC H0.length v (.int .i64 k) v1 (.int .i64 ((i + 1 : Nat) : Int)) G1 = some (.ret (.vs (Qw (flatK k l))),H0) → FZ H0.length v (.int .i64 k) v1 (.int .i64 i) G1 = some (.ret (.vs (Qw (flatK k l))),H0) := fun v1 G1 ih => by
    rw [QpJ]; simp only [Qah,Qdx,w1,ih]
   by_cases hk : l[i].k = k
   ·rw [if_pos hk] at hs hln
    obtain ⟨v1,G1,a1,a2,a3⟩ := ho.app hU l[i].ks (by omega)
    rw [← hs] at a2
    have ih := j2 _ _ (CO hv hn hl m (i + 1) (by omega) (by omega) v1 G1 a2 a3)
    simp only [Qah,Qag,Qbd,Qeb,Qef,decide_true,hv.len,h',q1,q3,q4,hk,q5,q6,a1,ih]
   ·rw [if_neg hk] at hs hln
    obtain ⟨v1,G1,a1,a2,a3⟩ := ho.app hU [l[i]] (by omega)
    rw [← hs] at a2
    have ih := j2 _ _ (CO hv hn hl m (i + 1) (by omega) (by omega) v1 G1 a2 a3)
    simp only [Qw] at a1
    simp only [Qah,Qag,Qbd,Qbc,Qeb,Qef,Qfe,decide_true,decide_false,hv.len,h',q1,q3,q4,hk,q2,a1,ih]
  ·have h' : ¬ (i : Int) < (l.length : Int) := by omega
   rw [List.take_of_length_le (by omega)] at ho
   simp only [Qah,Qbc,Qef,decide_false,hv.len,h']
   exact ho.ret hU
theorem QfX {k : Int} {H : Qa} {v : V} {l : List X} (hv : Sl H v l) (hn : (flatK k l).length ≤ 1000000000000) (hl : l.length ≤ 1000000000000) :
  E Ge [v,.int .i64 k] H = some (.ret (.vs (Qw (flatK k l))),H) := by
 have h1 := CO (k := k) hv hn hl l.length 0 rfl (Nat.zero_le _) .nils H .nils (Up.refl H)
 simp only [Qam] at h1
 rw [QqF,Qqd]
 exact h1
theorem DD {H : Qa} {v : V} {l : List X} (hv : Sl H v l) (hl : l.length ≤ 1000000000000) {f : FuncId} {cap : List V} {q : X → Bool} (hq : ∀ x ∈ l,E f (Qd x :: cap) H = some (.ret (.bool (q x)),H)) :
  ∃ r : Int,E Ef [v,.fn f cap] H = some (.ret (.int .i64 r),H) ∧ ((r = -1 ∧ l.any q = false) ∨ ∃ j : Nat,r = j ∧ ∃ h : j < l.length,q l[j] = true ∧ (l.take j).any q = false) := by
 have key : ∀ (m i : Nat),l.length - i = m → i ≤ l.length → (l.take i).any q = false → ∃ r : Int,LD H.length v (.fn f cap) (.int .i64 l.length) (.int .i64 i) H = some (.ret (.int .i64 r),H) ∧ ((r = -1 ∧ l.any q = false) ∨ ∃ j : Nat,r = j ∧ ∃ h : j < l.length,q l[j] = true ∧ (l.take j).any q = false) := by
  intro m
  induction m with
  | zero =>
   intro i hm hi hq0
   have h' : ¬ (i : Int) < (l.length : Int) := by omega
   rw [List.take_of_length_le (by omega)] at hq0
   refine ⟨-1,?_,.inl ⟨rfl,hq0⟩⟩
   rw [D9]
   simp only [Qah,Qbc,Qep,Qdx,Qef,Qcx,Qge,decide_false,List.nil_append,List.cons_append,h']
  | succ m ih =>
   intro i hm hi hq0
   have h : i < l.length := by omega
   have h' : (i : Int) < (l.length : Int) := by omega
   have w1 : IntKind.i64.wrap ((i : Int) + 1) = ((i + 1 : Nat) : Int) := by rw [wrap_i64 (by omega) (by omega)]; omega
   obtain ⟨p,p0,p5,q1,q2,-⟩ := hv.at h
   have hx := hq l[i] (List.getElem_mem h)
   cases hb : q l[i] with
   | true =>
    refine ⟨i,?_,.inr ⟨i,rfl,h,hb,hq0⟩⟩
    rw [hb] at hx
    rw [D9]
    simp only [Qah,Qab,Qbd,Qep,Qdx,Qef,Qcx,Qge,decide_true,List.nil_append,List.cons_append,h',q1,q2,hx]
   | false =>
    obtain ⟨r,r1,r2⟩ := ih (i + 1) (by omega) (by omega) (by rw [List.take_succ_eq_append_getElem h,List.any_append,hq0]; simp [hb])
    refine ⟨r,?_,r2⟩
    rw [hb] at hx
    rw [D9]
    simp only [Qah,Qab,Qbd,Qbc,Qep,Qdx,Qef,Qcx,Qge,decide_true,List.nil_append,List.cons_append,h',q1,q2,hx,w1,r1]
 obtain ⟨r,r1,r2⟩ := key l.length 0 rfl (Nat.zero_le _) rfl
 refine ⟨r,?_,r2⟩
 simp only [Qam] at r1
 rw [QnR,Ql7]
 simp only [Qah,hv.len,r1]
theorem DN {H : Qa} {v : V} {l : List X} (hv : Sl H v l) (hl : l.length ≤ 1000000000000) {f : FuncId} {cap : List V} {q : X → Bool} (hq : ∀ x ∈ l,E f (Qd x :: cap) H = some (.ret (.bool (q x)),H)) :
  E Ul [v,.fn f cap] H = some (.ret (.bool (l.any q)),H) := by
 obtain ⟨r,r1,r2⟩ := DD hv hl hq
 have e : decide (0 ≤ r) = l.any q := by
  rcases r2 with ⟨rfl,h⟩ | ⟨j,rfl,h,h2,-⟩
  ·rw [h]; rfl
  ·rw [decide_eq_true (by omega)]
   exact (List.any_eq_true.2 ⟨_,List.getElem_mem h,h2⟩).symm
 rw [QoX,QpB]
 simp only [Qah,Qab,Qec,Qcx,Qgc,r1,e]
theorem FW (k : Int) (H : Qa) : E BI [.int .i64 k] H = some (.ret (.fn Jk [.ptr H.length 0 0]),.var [.int .i64 k] :: H) := by
 rw [QqR,Qqm]
 have : ¬ H.length + 1 ≤ H.length := by omega
 have hr : ∀ G,rt false H.length (.fn Jk [.ptr H.length 0 0]) G = some (.ret (.fn Jk [.ptr H.length 0 0]),G) := fun G => by
  rw [NF,Qbe,Qbv,Qga,if_neg (by simp [V.maxRef,QX])]
 simp only [Qah,Qag,Qfl,Qar,Qgo,Qgn,Qgs,Qfv,Bool.and_true,hr]
theorem Aw (x : X) {k : Int} {c : Nat} {H : Qa} (hc : Qh H c = some (.var [.int .i64 k])) : E Jk [Qd x,.ptr c 0 0] H = some (.ret (.bool (decide (x.k = k))),H) := by
 rw [QnM,Qoz]
 have hlt := Q4 hc
 cases x with
 | mk kk s ks =>
  rw [QE]
  simp only [Qah,Qag,Qet,Qeb,Qcx,Qcz,Qhj,Qgc,Qan,Qgo,Qgn,Qgs,Qhc,Qcr,Qck,Qcj,Qfv,List.drop_zero,Nat.add_zero,Bool.and_true,Qj,Nat.le_refl,hc,hlt,X.k]
  rfl
end Go.Proofs.YtdnmpaielmfiiaaDoor
end
