/- Ma: a part of the proof that each law of this seat answers true at every input. No condition. -/
import Derived.Test.YtdnmpaielmfiiaaDoorTd
import Derived.Test.YtdnmpaielmfiiaaDoorXb
import Derived.Test.YtdnmpaielmfiiaaDoorEvH
set_option linter.unusedVariables false
set_option linter.unusedSimpArgs false
set_option maxRecDepth 20000
section
namespace Go.Proofs.YtdnmpaielmfiiaaDoor
open Go Go.Ev Go.X7 Go.Srt
abbrev Zt (L : List Int) (a : Nat) : Blk := .var [.vs (L.map (V.int .u8)),.int .i64 (a : Int)]
theorem Uv {L : List Int} (hL : ∀ n ∈ L,0 ≤ n ∧ n ≤ 255) (hl : L.length ≤ 9223372036854775807) {a : Nat} (ha : a ≤ 900000000000) {n : Int} (hn : 1 ≤ n ∧ n ≤ 900000000000) {G : Qa} {i : Nat} (hg : Qh G i = some (Zt L a)) :
  ∃ r : Int,0 ≤ r ∧ r < n ∧ E VB [.ptr i 0 0,.int .i64 n] G = some (.ret (.int .i64 r),Qn G i (Zt L (a + 1))) := by
 have hi := Q4 hg
 rw [Qlz,Qo0]
 have w1 : IntKind.i64.wrap ((a : Int) + 1) = ((a + 1 : Nat) : Int) := by rw [wrap_i64 (by omega) (by omega)]; omega
 have w2 : IntKind.i64.wrap (((a + 1 : Nat) : Int) - 1) = (a : Int) := by rw [wrap_i64 (by omega) (by omega)]; omega
 by_cases h1 : (L.length : Int) < ((a + 1 : Nat) : Int)
 ·refine ⟨0,by omega,by omega,?_⟩
  simp only [Qah,Qag,Qbd,Qcg,Qfm,Qfr,Qfo,Qet,Qfc,Qdx,Qel,Qed,Qcz,Qhj,Qge,Qar,Qgo,Qgn,Qgs,Qdi,Qhh,Qhf,Qhe,Qcs,Qcl,decide_true,if_true,List.drop_zero,List.drop_succ_cons,List.length_cons,List.length_nil,Nat.add_zero,Nat.zero_add,Bool.and_true,List.append_nil,Nat.reduceAdd,Qj,Qz,List.drop_nil,Qu,Nat.le_refl,Nat.zero_le,or_true,and_self,hg,hi,w1,List.length_map,h1]
 ·by_cases h2 : (150 : Int) < ((a + 1 : Nat) : Int)
  ·refine ⟨0,by omega,by omega,?_⟩
   simp only [Qah,Qag,Qbd,Qci,Qfm,Qfq,Qfo,Qet,Qfc,Qdx,Qel,Qed,Qcz,Qhj,Qge,Qar,Qgo,Qgn,Qgs,Qdi,Qhh,Qhf,Qhe,Qcs,Qcl,decide_true,decide_false,if_true,List.drop_zero,List.drop_succ_cons,List.length_cons,List.length_nil,Nat.add_zero,Nat.zero_add,Bool.and_true,List.append_nil,Nat.reduceAdd,Qj,Qz,List.drop_nil,Qu,Nat.le_refl,Nat.zero_le,or_true,and_self,hg,hi,w1,List.length_map,h1,h2]
  ·obtain ⟨z,hz,e1⟩ := Qg7 (l := L) (k' := .u8) (i := (a : Int)) (k := .i64) (by omega) (by omega)
   obtain ⟨z0,z1⟩ := hL z hz
   have hm : 0 ≤ z % n ∧ z % n < n := ⟨Int.emod_nonneg _ (by omega),Int.emod_lt_of_pos _ (by omega)⟩
   have w3 : IntKind.i64.wrap z = z := wrap_i64 (by omega) (by omega)
   have w4 : IntKind.i64.wrap (z % n) = z % n := wrap_i64 (by omega) (by omega)
   refine ⟨z % n,hm.1,hm.2,?_⟩
   simp only [Qah,Qag,Qbc,Qci,Qfm,Qfq,Qfo,Qet,Qey,Qfc,Qdx,Qel,Qed,Qcz,Qfh,Qhj,Qge,Qar,Qgo,Qgn,Qgs,Qdi,Qhh,Qhf,Qhe,Qcs,Qcl,decide_false,if_true,List.drop_zero,List.drop_succ_cons,List.length_cons,List.length_nil,Nat.add_zero,Nat.zero_add,Bool.and_true,List.append_nil,Nat.reduceAdd,Qj,Qz,List.drop_nil,Qu,Nat.le_refl,Nat.zero_le,or_true,and_self,hg,hi,w1,w2,List.length_map,h1,h2,e1,w3,Bq _ _ _ _ (show n ≠ 0 by omega),Int.tmod_eq_emod_of_nonneg z0,w4]
set_option maxRecDepth 20000
theorem Out7.low {b : Nat} {G : Qa} {v : V} {l : List X} (h : Out7 b G v l) {i : Nat} (hi : i < b) (x : Blk) : Out7 b (Qn G i x) v l := by
 cases h with
 | nils => exact .nils
 | rs j ver l hb hg => exact .rs j ver l hb (by rw [JD _ (by omega)]; exact hg)
structure Fit (d : Nat) (x : X) : Prop where
 rt : Rt x
 ok : x.ok
 size : x.size ≤ 4 ^ (d + 1)
 me : BU d x
def QdY (L : List Int) (d : Nat) : Prop := ∀ (G : Qa) (i a : Nat),Qh G i = some (Zt L a) → a + 4 ^ (d + 1) ≤ 100000 →
 ∃ (x : X) (a' : Nat),a ≤ a' ∧ a' ≤ a + 4 ^ (d + 1) ∧ Fit d x ∧ E NU [.ptr i 0 0,.int .i64 d] G = some (.ret (Qd x),Qn G i (Zt L a'))
theorem TA {L : List Int} {d : Nat} (hx : QdY L d) (hd : d ≤ 100) {n : Nat} (hn : n ≤ 100) {G : Qa} {i a : Nat} (hg : Qh G i = some (Zt L a)) (ha : a + n * 4 ^ (d + 1) ≤ 100000) :
  ∃ (l : List X) (a' : Nat),a ≤ a' ∧ a' ≤ a + n * 4 ^ (d + 1) ∧ l.length = n ∧ (∀ x ∈ l,Fit d x) ∧ E FJ [.ptr i 0 0,.int .i64 n,.int .i64 d] G = some (.ret (.vs (Qw l)),Qn G i (Zt L a')) := by
 have hi := Q4 hg
 have key : ∀ (m j : Nat) (acc : List X) (o : V) (G' : Qa) (a : Nat),n - j = m → j ≤ n → acc.length = j → Out7 G.length G' o acc → Up (Qn G i (Zt L a)) G' → a + m * 4 ^ (d + 1) ≤ 100000 →
   ∃ (ks : List X) (a' : Nat),a ≤ a' ∧ a' ≤ a + m * 4 ^ (d + 1) ∧ ks.length = m ∧ (∀ x ∈ ks,Fit d x) ∧
    P2 G.length (.ptr i 0 0) (.int .i64 n) (.int .i64 d) o (.int .i64 j) G' = some (.ret (.vs (Qw (acc ++ ks))),Qn G i (Zt L a')) := by
  intro m
  induction m with
  | zero =>
   intro j acc o G' a hm hj hl ho hU ha
   refine ⟨[],a,Nat.le_refl _,by omega,rfl,by simp,?_⟩
   have h' : ¬ (j : Int) < (n : Int) := by omega
   have hr := Out7.ret (H := Qn G i (Zt L a)) (by rw [JB]; exact ho) hU
   rw [JB] at hr
   rw [Qb6,List.append_nil]
   simp only [Qah,Qbc,Qdx,Qef,decide_false,h',hr]
  | succ m ih =>
   intro j acc o G' a hm hj hl ho hU ha
   have h' : (j : Int) < (n : Int) := by omega
   have hmul : (m + 1) * 4 ^ (d + 1) = m * 4 ^ (d + 1) + 4 ^ (d + 1) := Nat.succ_mul _ _
   have hg' : Qh G' i = some (Zt L a) := by rw [hU.get (by simpa using hi),Qcl hi]
   obtain ⟨x,a1,h1,h2,h3,h4⟩ := hx G' i a hg' (by omega)
   have hU1 : Up (Qn G i (Zt L a1)) (Qn G' i (Zt L a1)) := by
    have := hU.set_low (i := i) (by simpa using hi) (Zt L a1)
    rwa [Qcp] at this
   have ho1 : Out7 (Qn G i (Zt L a1)).length (Qn G' i (Zt L a1)) o acc := by rw [JB]; exact ho.low hi _
   obtain ⟨v',G2,q1,q2,q3⟩ := ho1.app hU1 [x] (by simp; omega)
   rw [JB] at q1 q2
   obtain ⟨ks,a',k1,k2,k3,k4,k5⟩ := ih (j + 1) (acc ++ [x]) v' G2 a1 (by omega) (by omega) (by simp; omega) q2 q3 (by omega)
   refine ⟨x :: ks,a',by omega,by omega,by simp [k3],fun y hy => ?_,?_⟩
   ·rcases List.mem_cons.1 hy with rfl | hy
    ·exact h3
    ·exact k4 y hy
   ·have w1 : IntKind.i64.wrap ((j : Int) + 1) = ((j + 1 : Nat) : Int) := by rw [wrap_i64 (by omega) (by omega)]; omega
    have e1 : Qw [x] = [Qd x] := rfl
    rw [e1] at q1
    rw [List.append_assoc,List.cons_append,List.nil_append] at k5
    rw [Qb6]
    simp only [Qah,Qag,Qab,Qbd,Qdx,Qef,Qfe,decide_true,h',h4,q1,w1,k5]
 obtain ⟨ks,a',k1,k2,k3,k4,k5⟩ := key n 0 [] .nils G a (by omega) (by omega) rfl .nils (by rw [Va hg]; exact Up.refl _) ha
 refine ⟨ks,a',k1,k2,k3,k4,?_⟩
 simp only [List.nil_append,Qam] at k5
 rw [QlO,QjE]
 exact k5
theorem T4 {r : Int} (h0 : 0 ≤ r) (h1 : r < 4) : Qb .quo 6 (.int .i64 r) (.int .i64 3) = some (.int .i64 (r / 3)) := by
 rw [Da _ _ _ _ (by decide),Int.tdiv_eq_ediv_of_nonneg (by omega),wrap_i64 (by omega) (by omega)]
theorem QiZ {r : Int} (h0 : 0 ≤ r) (h1 : r < 100) : Qb .rem 6 (.int .i64 r) (.int .i64 5) = some (.int .i64 (r % 5)) := by
 rw [Bq _ _ _ _ (by decide),Int.tmod_eq_emod_of_nonneg h0]
theorem QjG {d : Nat} {lo hi : Int} (h0 : 97 ≤ lo) (h1 : lo ≤ hi) (h2 : hi < 103) : ∃ s,S4.rng s lo hi ∧ Fit d (.mk 2 s []) := by
 obtain ⟨s,hs,-⟩ := Tt lo hi []
 refine ⟨s,hs,TT (fun e => ?_),⟨⟨hs.1,fun i hi2 hb => by rw [hs.2 i hi2] at hb; simp at hb; omega⟩,trivial⟩,?_,?_⟩
 ·have := hs.2 lo.toNat (by omega)
  rw [e,S4.zero_has,show ((lo.toNat : Nat) : Int) = lo by omega] at this
  simp [h1] at this
 ·have : 0 < 4 ^ (d + 1) := Nat.pow_pos (by omega)
  simp only [X.size,Qk]; omega
 ·exact BU.byte rfl
theorem QlP {d : Nat} {k : Int} (h : k = 0 ∨ k = 1) : Fit d (.mk k S4.zero []) := by
 have : 0 < 4 ^ (d + 1) := Nat.pow_pos (by omega)
 rcases h with rfl | rfl
 ·exact ⟨UQ,⟨S4.zero_sm,trivial⟩,by simp only [X.size,Qk]; omega,BU.zero rfl⟩
 ·exact ⟨LF,⟨S4.zero_sm,trivial⟩,by simp only [X.size,Qk]; omega,BU.emp rfl⟩
theorem QqX {l : List X} {b : Nat} (h : ∀ x ∈ l,x.size ≤ b) : Qk l ≤ l.length * b := by
 induction l with
 | nil => simp [Qk]
 | cons x l ih =>
  have h1 := h x List.mem_cons_self
  have h2 := ih fun y hy => h y (List.mem_cons_of_mem _ hy)
  have h3 : (l.length + 1) * b = l.length * b + b := Nat.succ_mul _ _
  simp only [Qk,List.length_cons]; omega
theorem Fu (d : Nat) : 4 ^ (d + 1 + 1) = 4 * 4 ^ (d + 1) ∧ 4 ≤ 4 ^ (d + 1) := by
 constructor
 ·rw [Nat.pow_succ 4 (d + 1)]; omega
 ·have := Nat.pow_le_pow_right (n := 4) (by omega) (show 1 ≤ d + 1 by omega)
  simpa using this
theorem Pq {l : List X} {b : Nat} (h : ∀ x ∈ l,x.size ≤ b) (hl : l.length ≤ 3) : Qk l ≤ 3 * b := by
 have h1 := QqX h
 have h2 := Nat.mul_le_mul_right b hl
 omega
theorem Qia {d : Nat} {x : X} (h : Fit d x) : Fit (d + 1) (Jh x) := ⟨QmQ h.rt,Qlk h.ok,by
 have h1 := QcT x
 have h2 := h.size
 obtain ⟨h3,h4⟩ := Fu d
 omega,Qod h.rt h.me⟩
theorem QmU {d : Nat} {l : List X} (h1 : 1 ≤ l.length) (hl : l.length ≤ 3) (h : ∀ x ∈ l,Fit d x) : Fit (d + 1) (Q8 l) := ⟨Aq fun x hx => (h x hx).rt,Mm fun x hx => (h x hx).ok,by
 have h1 := F6 l
 have h2 := Pq (fun x hx => (h x hx).size) hl
 obtain ⟨h3,h4⟩ := Fu d
 omega,Qps (fun e => by rw [e] at h1; exact absurd h1 (by decide)) hl fun x hx => ⟨(h x hx).rt,(h x hx).me⟩⟩
theorem QoY {d : Nat} {l : List X} (hl : l.length ≤ 3) (h : ∀ x ∈ l,Fit d x) : Fit (d + 1) (Ze l) := ⟨CN fun x hx => (h x hx).rt,C5 fun x hx => (h x hx).ok,by
 have h1 := G8 l
 have h2 := Pq (fun x hx => (h x hx).size) hl
 obtain ⟨h3,h4⟩ := Fu d
 omega,QnB hl fun x hx => (h x hx).me⟩
theorem W0 {L : List Int} {G : Qa} {i a : Nat} (hi : i < G.length) (b : Blk) : Qh (b :: Qn G i (Zt L a)) i = some (Zt L a) := by
 rw [Qck (by simpa using hi),Qcl hi]
theorem Vs {L : List Int} {G : Qa} {i a a' : Nat} (hi : i < G.length) (b : Blk) : Qn (b :: Qn G i (Zt L a)) i (Zt L a') = b :: Qn G i (Zt L a') := by
 rw [Qco (by simpa using hi),Qcp]
abbrev zB : Blk := .var zX
theorem QeP {L : List Int} (hL : ∀ n ∈ L,0 ≤ n ∧ n ≤ 255) (hl : L.length ≤ 9223372036854775807) {d : Nat} {t1 : V} {G : Qa} {i a : Nat} (hi : i < G.length) (ha : a + 2 ≤ 100000) {k : Int} (hk0 : 0 ≤ k) (hk : k ≤ 4) :
  ∃ (x : X) (a' : Nat),a ≤ a' ∧ a' ≤ a + 2 ∧ Fit d x ∧ LL G.length (.ptr i 0 0) t1 (.ptr G.length 0 0) (.int .i64 k) (zB :: Qn G i (Zt L a)) = some (.ret (Qd x),Qn G i (Zt L a')) := by
 by_cases h4 : k < 4
 ·obtain ⟨r1,p1,p2,p3⟩ := Uv hL hl (a := a) (by omega) (n := 3) (by omega) (W0 (L := L) (a := a) hi zB)
  rw [Vs hi] at p3
  obtain ⟨r2,q1,q2,q3⟩ := Uv hL hl (a := a + 1) (by omega) (n := 4) (by omega) (W0 (L := L) (a := a + 1) hi zB)
  rw [Vs hi] at q3
  have w1 : IntKind.i64.wrap (97 + r1) = 97 + r1 := wrap_i64 (by omega) (by omega)
  have w2 : IntKind.i64.wrap (97 + r1 + r2 / 3) = 97 + r1 + r2 / 3 := wrap_i64 (by omega) (by omega)
  obtain ⟨s,s1,s2⟩ := QjG (d := d) (lo := 97 + r1) (hi := 97 + r1 + r2 / 3) (by omega) (by omega) (by omega)
  have lt := fun G => Qn3 s1 G
  have e2 : Qd (.mk 2 s []) = .agg [.int .i64 2,.int .u64 s.a,.int .u64 s.b,.int .u64 s.c,.int .u64 s.d,.vs []] := rfl
  rw [e2] at lt
  refine ⟨_,a + 1 + 1,by omega,by omega,s2,?_⟩
  rw [RG,e2]
  simp only [Qah,Qag,Qab,Qbd,Qdx,Qeb,Qef,Qcz,Qan,Qgo,Qgn,Qgs,Qhc,Qdi,Qdt,Qde,Qdd,Qdc,Qhh,Qhf,Qcs,Qcr,Qcj,Qcn,Qhi,Qem,Qgb,Qga,Qbe,Qbx,Qce,Qbt,Qdb,Qda,decide_true,if_true,List.drop_zero,List.drop_succ_cons,List.length_cons,List.length_nil,Nat.zero_add,Option.bind_some,Option.map_some,Bool.and_true,List.append_nil,Nat.reduceAdd,JB,Qj,Qz,List.drop_nil,Qu,Nat.le_refl,Nat.zero_le,or_true,and_self,Nat.max_self,List.take_zero,List.take_succ_cons,h4,p3,q3,w1,w2,T4 q1 q2,lt]
 ·obtain rfl : k = 4 := by omega
  obtain ⟨r1,p1,p2,p3⟩ := Uv hL hl (a := a) (by omega) (n := 4) (by omega) (W0 (L := L) (a := a) hi zB)
  rw [Vs hi] at p3
  have b := bXk (r1 / 3)
  refine ⟨.mk (r1 / 3) S4.zero [],a + 1,by omega,by omega,QlP (by omega),?_⟩
  rw [RG]
  simp only [Qah,Qag,Qab,Qbd,Qbc,Qeb,Qef,Qcz,Qan,Qgo,Qgn,Qgs,Qgy,Qdi,Qdo,Qdt,Qde,Qdd,Qdc,Qhh,Qhf,Qcs,Qcr,Qcj,Qcn,Qhi,Qgb,Qga,Qbe,Qbx,Qca,Qbt,Qdb,Qda,decide_true,decide_false,if_true,List.drop_zero,List.drop_succ_cons,List.length_cons,List.length_nil,Nat.zero_add,Option.bind_some,Option.map_some,Bool.and_true,List.append_nil,Nat.reduceAdd,JB,Qj,Qz,List.drop_nil,Qu,Nat.le_refl,Nat.zero_le,or_true,and_self,Nat.max_self,List.take_zero,List.take_succ_cons,h4,p3,T4 p1 p2,b]
  rfl
theorem QcI {L : List Int} (hL : ∀ n ∈ L,0 ≤ n ∧ n ≤ 255) (hl : L.length ≤ 9223372036854775807) : ∀ d : Nat,d ≤ 6 → QdY L d
 | 0,_ => by
  intro G i a hg ha
  have hi := Q4 hg
  simp only [Nat.zero_add,Nat.pow_one] at ha
  have hg1 : Qh (zB :: G) i = some (Zt L a) := by rw [Qck hi]; exact hg
  obtain ⟨r,p1,p2,p3⟩ := Uv hL hl (a := a) (by omega) (n := 11) (by omega) hg1
  rw [Qco hi] at p3
  obtain ⟨x,a',h1,h2,h3,h4⟩ := QeP hL hl (d := 0) (t1 := .int .i64 0) (G := G) (i := i) (a := a + 1) hi (by omega) (k := r % 5) (by omega) (by omega)
  refine ⟨x,a',by omega,by simp only [Nat.zero_add,Nat.pow_one]; omega,h3,?_⟩
  rw [Na,Lq]
  have h01 : (0 : Int) < 1 := by omega
  simp only [Qam,Qah,Qag,Qab,Qbd,Qef,Qan,Qgo,Qgn,Qgs,Qgy,Qam,Qfv,decide_true,Bool.and_true,h01,p3,QiZ p1 (show r < 100 by omega),h4]
 | d + 1,hd => by
  have ih := QcI hL hl d (by omega)
  intro G i a hg ha
  obtain ⟨hp,hp4⟩ := Fu d
  have hi := Q4 hg
  have hg1 : Qh (zB :: G) i = some (Zt L a) := by rw [Qck hi]; exact hg
  obtain ⟨r,p1,p2,p3⟩ := Uv hL hl (a := a) (by omega) (n := 11) (by omega) hg1
  rw [Qco hi] at p3
  have hd1 : ¬ (((d + 1 : Nat) : Int) < 1) := by omega
  have w1 : IntKind.i64.wrap (((d + 1 : Nat) : Int) - 1) = (d : Int) := by rw [wrap_i64 (by omega) (by omega)]; omega
  by_cases h4 : r ≤ 4
  ·obtain ⟨x,a',h1,h2,h3,h5⟩ := QeP hL hl (d := d + 1) (t1 := .int .i64 ((d + 1 : Nat) : Int)) (G := G) (i := i) (a := a + 1) hi (by omega) (k := r) (by omega) h4
   refine ⟨x,a',by omega,by omega,h3,?_⟩
   rw [Na,Lq]
   simp only [Qah,Qag,Qab,Qbc,Qef,Qan,Qgo,Qgn,Qgs,Qgy,Qfv,decide_false,Bool.and_true,p3,hd1,h5]
  ·have n4 : ¬ r < 4 := by omega
   have n5 : ¬ r = 4 := by omega
   by_cases h7 : r < 7
   ·obtain ⟨x,a',h1,h2,h3,h5⟩ := ih (zB :: Qn G i (Zt L (a + 1))) i (a + 1) (W0 hi zB) (by omega)
    rw [Vs hi] at h5
    have st := fun G => AB x G
    have hf := Qia h3
    refine ⟨Jh x,a',by omega,by omega,hf,?_⟩
    have er := fun H => Qbl G.length (Jh x) H
    obtain ⟨k,s,ks,e⟩ : ∃ k s ks,Jh x = .mk k s ks := by cases Jh x with | mk k s ks => exact ⟨k,s,ks,rfl⟩
    rw [e,QE] at st er ⊢
    rw [Na,Lq]
    simp only [Qah,Qag,Qab,Qbc,Qef,Qan,Qgo,Qgn,Qgs,Qgy,Qfv,decide_false,Bool.and_true,p3,hd1]
    rw [RG]
    simp only [Qah,Qag,Qab,Qbd,Qbc,Qel,Qeb,Qef,Qcz,Qan,Qgo,Qgn,Qgs,Qhc,Qdi,Qdt,Qde,Qdd,Qdc,Qhh,Qhf,Qcs,Qcr,Qcj,Qcn,Qhi,Qem,decide_true,decide_false,if_true,List.drop_zero,List.drop_succ_cons,List.length_cons,List.length_nil,Nat.zero_add,Bool.and_true,List.append_nil,Nat.reduceAdd,JB,Qj,Qz,List.drop_nil,Qu,Nat.le_refl,Nat.zero_le,or_true,and_self,Nat.max_self,List.take_zero,List.take_succ_cons,n4,n5,h7,w1,h5,st,er]
    done
   ·by_cases h9 : r < 9
    ·obtain ⟨r1,u1,u2,u3⟩ := Uv hL hl (a := a + 1) (by omega) (n := 3) (by omega) (W0 (L := L) (a := a + 1) hi zB)
     rw [Vs hi] at u3
     obtain ⟨n,hn⟩ : ∃ n : Nat,1 + r1 = n := ⟨(1 + r1).toNat,by omega⟩
     have hn3 : n ≤ 3 := by omega
     have hm := Nat.mul_le_mul_right (4 ^ (d + 1)) hn3
     obtain ⟨l,a',h1,h2,h3,h5,h6⟩ := TA ih (by omega) (n := n) (by omega) (W0 (L := L) (a := a + 1 + 1) hi zB) (by omega)
     rw [Vs hi] at h6
     have w2 : IntKind.i64.wrap (1 + r1) = (n : Int) := by rw [wrap_i64 (by omega) (by omega)]; exact hn
     have hsz : Qk l ≤ 900000000000 := by
      have k1 := Pq (fun x hx => (h5 x hx).size) (by omega)
      omega
     have ca := fun G => Ni (H := G) (Sl.vs l) hsz
     refine ⟨Q8 l,a',by omega,by omega,QmU (by omega) (by omega) h5,?_⟩
     have er := fun H => Qbl G.length (Q8 l) H
     obtain ⟨k,s,ks,e⟩ : ∃ k s ks,Q8 l = .mk k s ks := by cases Q8 l with | mk k s ks => exact ⟨k,s,ks,rfl⟩
     rw [e,QE] at ca er ⊢
     rw [Na,Lq]
     simp only [Qah,Qag,Qab,Qbc,Qef,Qan,Qgo,Qgn,Qgs,Qgy,Qfv,decide_false,Bool.and_true,p3,hd1]
     rw [RG]
     simp only [Qah,Qag,Qab,Qbd,Qbc,Qdx,Qel,Qeb,Qef,Qcz,Qan,Qgo,Qgn,Qgs,Qhc,Qdi,Qdt,Qde,Qdd,Qdc,Qhh,Qhf,Qcs,Qcr,Qcj,Qcn,Qhi,Qem,decide_true,decide_false,if_true,List.drop_zero,List.drop_succ_cons,List.length_cons,List.length_nil,Nat.zero_add,Bool.and_true,List.append_nil,Nat.reduceAdd,JB,Qj,Qz,List.drop_nil,Qu,Nat.le_refl,Nat.zero_le,or_true,and_self,Nat.max_self,List.take_zero,List.take_succ_cons,n4,n5,h7,h9,w1,w2,u3,h6,ca,er]
     done
    ·obtain ⟨r1,u1,u2,u3⟩ := Uv hL hl (a := a + 1) (by omega) (n := 3) (by omega) (W0 (L := L) (a := a + 1) hi zB)
     rw [Vs hi] at u3
     obtain ⟨n,hn⟩ : ∃ n : Nat,1 + r1 = n := ⟨(1 + r1).toNat,by omega⟩
     have hn3 : n ≤ 3 := by omega
     have hm := Nat.mul_le_mul_right (4 ^ (d + 1)) hn3
     obtain ⟨l,a',h1,h2,h3,h5,h6⟩ := TA ih (by omega) (n := n) (by omega) (W0 (L := L) (a := a + 1 + 1) hi zB) (by omega)
     rw [Vs hi] at h6
     have w2 : IntKind.i64.wrap (1 + r1) = (n : Int) := by rw [wrap_i64 (by omega) (by omega)]; exact hn
     have hsz : Qk l ≤ 900000000000 := by
      have k1 := Pq (fun x hx => (h5 x hx).size) (by omega)
      omega
     have ca := fun G => G9 (H := G) (Sl.vs l) hsz fun x hx => (h5 x hx).ok
     refine ⟨Ze l,a',by omega,by omega,QoY (by omega) h5,?_⟩
     have er := fun H => Qbl G.length (Ze l) H
     obtain ⟨k,s,ks,e⟩ : ∃ k s ks,Ze l = .mk k s ks := by cases Ze l with | mk k s ks => exact ⟨k,s,ks,rfl⟩
     rw [e,QE] at ca er ⊢
     rw [Na,Lq]
     simp only [Qah,Qag,Qab,Qbc,Qef,Qan,Qgo,Qgn,Qgs,Qgy,Qfv,decide_false,Bool.and_true,p3,hd1]
     rw [RG]
     simp only [Qah,Qag,Qab,Qbc,Qdx,Qel,Qeb,Qef,Qcz,Qan,Qgo,Qgn,Qgs,Qhc,Qdi,Qdt,Qde,Qdd,Qdc,Qhh,Qhf,Qcs,Qcr,Qcj,Qcn,Qhi,Qem,decide_false,if_true,List.drop_zero,List.drop_succ_cons,List.length_cons,List.length_nil,Nat.zero_add,Bool.and_true,List.append_nil,Nat.reduceAdd,JB,Qj,Qz,List.drop_nil,Qu,Nat.le_refl,Nat.zero_le,or_true,and_self,Nat.max_self,List.take_zero,List.take_succ_cons,n4,n5,h7,h9,w1,w2,u3,h6,ca,er]
     done
theorem Cu {L : List Int} (hL : ∀ n ∈ L,0 ≤ n ∧ n ≤ 255) (hl : L.length ≤ 9223372036854775807) (H : Qa) : ∃ x : X,Fit 4 x ∧ E MX [.vs (L.map (V.int .u8)),.int .i64 0] H = some (.ret (Qd x),H) := by
 obtain ⟨x,a',h1,h2,h3,h4⟩ := QcI hL hl 4 (by omega) (Zt L 0 :: zB :: H) (H.length + 1) 0 (ZR (Zt L 0) (zB :: H)) (by omega)
 refine ⟨x,h3,?_⟩
 have e : Qn (Zt L 0 :: zB :: H) (H.length + 1) (Zt L a') = Zt L a' :: zB :: H := by
  have : (zB :: H).length = H.length + 1 := rfl
  rw [← this]
  simp [Qn]
 rw [e] at h4
 have hb : Zj [.nils,.int .i64 0] [(0,1),(1,1)] [(0,.vs (L.map (V.int .u8))),(1,.int .i64 0)] = some (.agg [.vs (L.map (V.int .u8)),.int .i64 0]) := by simp [splice]
 have sv : Qs H.length 6 (Zt L a' :: zB :: H) (.ptr H.length 0 0) (Qd x) = some (.tup [],Zt L a' :: .var (Qd x).cells :: H) := by
  have := Y6 (H := H) (G := Zt L a' :: zB :: H) (t := H.length) (Nat.le_refl _) (cs := zX) (by simp) (by rw [Qck (by simp)]; exact ZR _ _) (x := Qd x) (by simp) (by simp)
  rw [this,Qco (by simp)]; simp [Qn]
 have ld : Qc true 6 (Zt L a' :: .var (Qd x).cells :: H) (.ptr H.length 0 0) = some (Qd x) := by
  rw [Qj,Qck (by simp),ZR,Qcz,List.drop_zero,Zx]
 simp only [Zt,Qam] at h4 sv ld
 rw [QjZ,Qks]
 simp only [Qah,Qag,Qab,Qcx,Qan,Qgo,Qgn,Qgs,Qgy,Qhc,Qcr,Qfv,Qbl,List.length_cons,Bool.and_true,Qu,Nat.le_refl,hb,h4,sv,ld]
 done
def Un : List (List UInt8) := [[97],[98],[99],[100],[97]]
theorem Qo6 : ∀ t ∈ Un,t.length ≤ 1 := by decide
theorem TF {zs : List Int} (hz : ∀ n ∈ zs,0 ≤ n ∧ n ≤ 255) (hl : zs.length ≤ 9223372036854775807) {H : Qa} : ∀ (m i : Nat) {acc : List UInt8},14 - i = m → i ≤ 14 → acc.length ≤ i →
  ∃ t : List UInt8,t.length ≤ 14 ∧ Lp H.length (.vs (zs.map (V.int .u8))) (.vs (Un.map V.str)) (.str acc) (.int .i64 i) H = some (.ret (.str t),H)
 | m,i,acc,hm,hi,ha => by
  rw [Aa]
  have stop : ¬ (i < zs.length ∧ i < 14) → ∃ t : List UInt8,t.length ≤ 14 ∧ Lp H.length (.vs (zs.map (V.int .u8))) (.vs (Un.map V.str)) (.str acc) (.int .i64 i) H = some (.ret (.str t),H) := by
   intro h
   refine ⟨acc,by omega,?_⟩
   rw [Aa]
   by_cases h1 : i < zs.length
   ·have h1' : (i : Int) < (zs.length : Int) := by omega
    have h2' : ¬ (i : Int) < 14 := by omega
    simp only [Qah,Qbc,Qci,Qfm,Qfr,Qfc,Qdx,Qef,Qcx,Qgi,decide_true,decide_false,List.length_map,h1',h2']
   ·have h1' : ¬ (i : Int) < (zs.length : Int) := by omega
    simp only [Qah,Qbc,Qcf,Qfm,Qfq,Qfc,Qdx,Qef,Qcx,Qgi,decide_false,List.length_map,h1']
  rw [Aa] at stop
  by_cases h : i < zs.length ∧ i < 14
  ·obtain ⟨m,rfl⟩ : ∃ q,m = q + 1 := ⟨m - 1,by omega⟩
   have h1' : (i : Int) < (zs.length : Int) := by omega
   have h2' : (i : Int) < 14 := by omega
   obtain ⟨n,hn,e1⟩ := Qg7 (l := zs) (k' := .u8) (i := i) (k := .i64) (by omega) h1'
   obtain ⟨n0,n1⟩ := hz n hn
   have hm30 : 0 ≤ n % 5 ∧ n % 5 < 5 := ⟨Int.emod_nonneg _ (by omega),Int.emod_lt_of_pos _ (by omega)⟩
   obtain ⟨t0,ht0,e2⟩ := Qja (l := Un) (i := n % 5) (k := .i64) hm30.1 hm30.2
   have hlen := Qo6 t0 ht0
   obtain ⟨t,i1,i2⟩ := TF hz hl (H := H) m (i + 1) (acc := acc ++ t0) (by omega) (by omega) (by simp; omega)
   refine ⟨t,i1,?_⟩
   have h30 : Un.length = 5 := rfl
   simp only [Qah,Qbd,Qci,Qfm,Qfr,Qey,Qfc,Qdx,Qef,Qcx,Qfh,Qhj,Qgi,Qam,decide_true,List.length_map,h1',h2',e1,h30,wrap_i64 (show -9223372036854775808 ≤ n by omega) (by omega),Bq _ _ _ _ (show (5 : Int) ≠ 0 by omega),Int.tmod_eq_emod_of_nonneg n0,e2,
    Z3 _ _ _ (show acc.length + t0.length ≤ 9223372036854775807 by omega),Qmz (show i < 4611686018427387904 by omega),i2]
  ·exact stop h
theorem QpT {zs : List Int} (hz : ∀ n ∈ zs,0 ≤ n ∧ n ≤ 255) (hl : zs.length ≤ 9223372036854775807) (H : Qa) : ∃ t : List UInt8,t.length ≤ 14 ∧ E DY [.vs (zs.map (V.int .u8)),.vs (Un.map V.str)] H = some (.ret (.str t),H) := by
 obtain ⟨t,h1,h2⟩ := TF hz hl (H := H) 14 0 (acc := []) (by omega) (by omega) (by simp)
 refine ⟨t,h1,?_⟩
 rw [Qmg,QjO]
 exact h2
theorem Dm {zs : List Int} (hz : ∀ n ∈ zs,0 ≤ n ∧ n ≤ 255) (hl : zs.length ≤ 9223372036854775807) {k : Nat} (hk : k ≤ 100) (H : Qa) : ∃ t : List UInt8,t.length ≤ k ∧ E VU [.vs (zs.map (V.int .u8)),.int .i64 k] H = some (.ret (.str t),H) := by
 obtain ⟨t,h1,h2⟩ := QpT hz hl H
 have lt : ∀ z,Zq 1 5 z [(0,(.str [97])),(1,(.str [98])),(2,(.str [99])),(3,(.str [100])),(4,(.str [97]))] = some (.vs (Un.map V.str)) := fun z => by rw [WA]; rfl
 refine ⟨t.take k,by simp; omega,?_⟩
 rw [QqJ,QoP]
 by_cases hc : (k : Int) < (t.length : Int)
 ·have sl := QbW (s := t) (k := .i64) (n := (k : Int)) (by omega) (by omega)
  simp only [Int.toNat_natCast] at sl
  simp only [Qah,Qab,Qfd,Qcx,Qgi,Qfk,if_true,lt,h2,hc,sl]
 ·have sl := QbW (s := t) (k := .i64) (n := (t.length : Int)) (by omega) (by omega)
  simp only [Int.toNat_natCast] at sl
  rw [List.take_of_length_le (i := t.length) (Nat.le_refl _)] at sl
  rw [List.take_of_length_le (i := k) (by omega)]
  simp only [Qah,Qab,Qfd,Qcx,Qgi,Qfk,if_false,lt,h2,hc,sl]
end Go.Proofs.YtdnmpaielmfiiaaDoor
end
