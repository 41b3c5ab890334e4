/- La: a part of the proof that each law of this seat answers true at every input. No condition. -/
import Derived.Test.YtdnmpaielmfiiaaDoorTe
set_option linter.unusedVariables false
set_option linter.unusedSimpArgs false
set_option maxRecDepth 20000
section
namespace Go.Proofs.YtdnmpaielmfiiaaDoor
open Go Go.Ev Go.X7 Go.Srt
set_option maxRecDepth 20000
def WR (x : X) (t : List UInt8) : X := t.foldl (fun x c => Qo (c.toNat : Int) x) x
def GdT : X → List UInt8 → Prop
 | x,[] => x.size ≤ 20000000000
 | x,c :: t => x.size ≤ 20000000000 ∧ Gd (c.toNat : Int) x ∧ GdT (Qo (c.toNat : Int) x) t
theorem Qmh {x : X} {t : List UInt8} (h : GdT x t) : x.size ≤ 20000000000 := by
 cases t with
 | nil => exact h
 | cons c t => exact h.1
theorem AU {t : List UInt8} {i : Nat} (h : i < t.length) : Km (.str t) (.int .i64 (i : Int)) = some (.int .u8 (t[i].toNat : Int)) := by
 rw [BH]
 simp [Lm,Z0,h]
theorem Qku {t : List UInt8} (ht : t.length ≤ 9000000000000000000) {H : Qa} : ∀ (m i : Nat),t.length - i = m → i ≤ t.length → ∀ x : X,x.ok → GdT x (t.drop i) →
  Gs H.length (.str t) (.ptr H.length 0 0) (.int .i64 (i : Int)) (.var (Qc x).cells :: H) = some (.ret (.bool (Zp (WR x (t.drop i)))),H) := by
 intro m
 induction m with
 | zero =>
  intro i hm hi x hx hg
  have h' : ¬ (i : Int) < (t.length : Int) := by omega
  have hs := Qmh hg
  have nl := fun G => VY 1000000000000 x (by omega) (Nat.le_refl _) G
  have ld : Qd true 6 (.var (Qc x).cells :: H) (.ptr H.length 0 0) = some (Qc x) := by
   rw [Qk,ZU,Qcz,List.drop_zero,Zo]
  rw [List.drop_of_length_le (by omega),Qf3]
  simp (maxDischargeDepth := 9) only [Qah,Qab,Qbc,Qfd,Qdx,Qef,Qcx,Qgc,Qcr,decide_false,QA,Nat.le_refl,h',ld,nl]
  rfl
 | succ m ih =>
  intro i hm hi x hx hg
  have h : i < t.length := by omega
  have h' : (i : Int) < (t.length : Int) := by omega
  have w1 : IntKind.i64.wrap ((i : Int) + 1) = ((i + 1 : Nat) : Int) := by rw [wrap_i64 (by omega) (by omega)]; omega
  rw [List.drop_eq_getElem_cons h] at hg ⊢
  obtain ⟨g1,g2,g3⟩ := hg
  have D := fun G => WS 20000000000 x g1 (Nat.le_refl _) hx _ g2 G
  have hc : (t[i].toNat : Int) < 256 := by have := t[i].toNat_lt; omega
  have w2 : IntKind.i64.wrap (t[i].toNat : Int) = (t[i].toNat : Int) := wrap_i64 (by omega) (by omega)
  have ix : Km (.str t) (.int .i64 (i : Int)) = some (.int .u8 (t[i].toNat : Int)) := by
   exact AU h
  have ld : Qd true 6 (.var (Qc x).cells :: H) (.ptr H.length 0 0) = some (Qc x) := by
   rw [Qk,ZU,Qcz,List.drop_zero,Zo]
  have sv : Qs H.length 6 (.var (Qc x).cells :: H) (.ptr H.length 0 0) (Qc (Qo (t[i].toNat : Int) x)) = some (.tup [],.var (Qc (Qo (t[i].toNat : Int) x)).cells :: H) := by
   have := YT (H := H) (G := .var (Qc x).cells :: H) (t := H.length) (Nat.le_refl _) (cs := (Qc x).cells) (by simp) (ZU _ _) (x := Qc (Qo (t[i].toNat : Int) x)) (by simp) (by simp)
   rw [this]; simp [Qn]
  have k2 := ih (i + 1) (by omega) (by omega) _ (Ki _ hx) g3
  rw [Qf3]
  simp (maxDischargeDepth := 9) only [Qah,Qag,Qab,Qbd,Qey,Qfd,Qdx,Qef,decide_true,h',ld,ix,w2,D,sv,w1,k2]
  rfl
theorem Lp {x : X} (hx : x.ok) {t : List UInt8} (ht : t.length ≤ 9000000000000000000) (hg : GdT x t) (H : Qa) : E Un [Qc x,.str t] H = some (.ret (.bool (Zp (WR x t))),H) := by
 have l := Qku ht (H := H) t.length 0 rfl (Nat.zero_le _) x hx hg
 simp only [List.drop_zero,Qam] at l
 have ov : QB H (Qc x) = some (.ptr H.length 0 0,.var (Qc x).cells :: H) := Re (by simp)
 rw [Qnm,QkF]
 simp (maxDischargeDepth := 9) only [Qag,Qfv,Qbm,ov,l]
def s97 : S4 := ⟨0,8589934592,0,0⟩
def s98 : S4 := ⟨0,17179869184,0,0⟩
theorem Ql7 : S4.rng s97 97 97 := ⟨by decide,by decide⟩
theorem QpJ : S4.rng s98 98 98 := ⟨by decide,by decide⟩
abbrev aX : X := .mk 2 s97 []
abbrev bX : X := .mk 2 s98 []
abbrev asX : X := .mk 5 S4.zero [aX]
abbrev rX : X := .mk 3 S4.zero [asX,bX]
theorem QiL : Jh aX = asX := rfl
theorem Qix : Q8 [asX,bX] = rX := rfl
theorem d97 : Qo 97 rX = rX := by rfl
theorem d98 : Qo 98 rX = x1 := by rfl
theorem QiX : Qo 97 x1 = x0 := by rfl
theorem QpE (G : Qa) : E WC [.agg [.int .i64 2,.int .u64 0,.int .u64 8589934592,.int .u64 0,.int .u64 0,.nils]] G = some (.ret (Qc asX),G) := by
 have n20 : ¬ (2 : Int) = 0 := by decide
 have n21 : ¬ (2 : Int) = 1 := by decide
 have n25 : ¬ (2 : Int) = 5 := by decide
 have lt : ∀ z,Zr 6 1 z [(0,.agg [.int .i64 2,.int .u64 0,.int .u64 8589934592,.int .u64 0,.int .u64 0,.nils])] = some (.vs [Qc aX]) := fun z => by
  rw [KX]; rfl
 have b := bXv 5 [Qc aX]
 have q := Qbl G.length asX
 have e5 : Qc asX = .agg [.int .i64 5,.int .u64 0,.int .u64 0,.int .u64 0,.int .u64 0,.vs [Qc aX]] := rfl
 have eA : Qc aX = .agg [.int .i64 2,.int .u64 0,.int .u64 8589934592,.int .u64 0,.int .u64 0,.vs []] := rfl
 rw [e5] at q ⊢
 rw [eA] at q b lt ⊢
 rw [Qhv,QeG]
 simp (maxDischargeDepth := 9) only [Qah,Qag,Qbc,Qet,Qeb,Qcx,Qcz,Qhj,Qan,Qgo,Qgn,Qgs,Qgy,Qdi,Qdt,Qde,Qdd,Qdc,Qhh,Qhf,Qcr,Qck,Qcj,Qcn,Qfv,Qhi,Qem,Qgb,Qga,Qbe,Qbx,Qca,Qbt,Qdb,Qda,decide_false,if_true,List.drop_zero,List.drop_succ_cons,List.length_cons,List.length_nil,Nat.add_zero,Nat.zero_add,Option.bind_some,Option.map_some,Bool.and_true,List.append_nil,Nat.reduceAdd,Qk,QA,List.drop_nil,Qu,Nat.le_refl,Nat.lt_add_one,Nat.zero_le,true_or,and_true,and_self,Nat.max_self,List.take_zero,List.take_succ_cons,n20,n21,n25]
 rw [QaU]
 simp (maxDischargeDepth := 9) only [Qah,Qag,Qcx,Qcz,Qan,Qgo,Qgn,Qgs,Qhc,Qhh,Qhf,Qcr,Qck,Qcj,Qcn,Qhi,if_true,List.drop_zero,List.drop_succ_cons,List.length_cons,List.length_nil,Nat.zero_add,Bool.and_true,List.append_nil,Nat.reduceAdd,Qk,QA,List.drop_nil,Qu,Nat.le_refl,Nat.lt_add_one,true_or,and_true,and_self,List.take_zero,List.take_succ_cons,lt,b,q]
set_option maxHeartbeats 1000000 in
theorem GO (H : Qa) : E U4 [] H = some (.ret (.bool true),H) := by
 have o1 := fun G => Cj Ql7 G
 have o2 := fun G => Cj QpJ G
 have b1 := bXs 2 s97
 have b2 := bXs 2 s98
 have okr : rX.ok := ⟨by decide,⟨by decide,⟨by decide,trivial⟩,trivial⟩,⟨by decide,trivial⟩,trivial⟩
 have st := fun G => AX aX G
 rw [QiL] at st
 have lt : ∀ z,Zr 6 2 z [(0,Qc asX),(1,.agg [.int .i64 2,.int .u64 0,.int .u64 17179869184,.int .u64 0,.int .u64 0,.nils])] = some (.vs (Qw [asX,bX])) := fun z => by
  rw [QfN (sz := 6) (by simp) (by simp) (by rw [UT]; exact BC _) rfl rfl rfl,UT]; rfl
 have ca := fun G => Nw (H := G) (Sl.vs [asX,bX]) (by decide)
 rw [Qix] at ca
 have D1 := fun G => WS 20000000000 rX (by decide) (Nat.le_refl _) okr 97 (WL _ _ (by decide)) G
 have D2 := fun G => WS 20000000000 rX (by decide) (Nat.le_refl _) okr 98 (WL _ _ (by decide)) G
 rw [d97] at D1
 rw [d98] at D2
 have sm := fun G => UQ 1000000 rX rX (by decide) (by decide) G
 rw [UL] at sm
 have n1 := fun G => VY 1000000 rX (by decide) (by decide) G
 rw [show Zp rX = false from rfl] at n1
 have n2 := fun G => VY 1000000 asX (by decide) (by decide) G
 rw [show Zp asX = true from rfl] at n2
 have g97 : Gd 97 rX := WL _ _ (by decide)
 have g98 : Gd 98 rX := WL _ _ (by decide)
 have m1 := fun G => Lp okr (t := [97,97,98]) (by decide) ⟨by decide,g97,by rw [show ((97 : UInt8).toNat : Int) = 97 from rfl,d97]; exact ⟨by decide,g97,by rw [show ((97 : UInt8).toNat : Int) = 97 from rfl,d97]; exact ⟨by decide,g98,by rw [show ((98 : UInt8).toNat : Int) = 98 from rfl,d98]; show (1 : Nat) ≤ _; decide⟩⟩⟩ G
 rw [show Zp (WR rX [97,97,98]) = true from rfl] at m1
 have m2 := fun G => Lp okr (t := [97,98,97]) (by decide) ⟨by decide,g97,by rw [show ((97 : UInt8).toNat : Int) = 97 from rfl,d97]; exact ⟨by decide,g98,by rw [show ((98 : UInt8).toNat : Int) = 98 from rfl,d98]; exact ⟨by decide,WL _ _ (by decide),by rw [show ((97 : UInt8).toNat : Int) = 97 from rfl,QiX]; show (1 : Nat) ≤ _; decide⟩⟩⟩ G
 rw [show Zp (WR rX [97,98,97]) = false from rfl] at m2
 have eA : Qc aX = .agg [.int .i64 2,.int .u64 0,.int .u64 8589934592,.int .u64 0,.int .u64 0,.vs []] := rfl
 have eB : Qc bX = .agg [.int .i64 2,.int .u64 0,.int .u64 17179869184,.int .u64 0,.int .u64 0,.vs []] := rfl
 have eS : Qc asX = .agg [.int .i64 5,.int .u64 0,.int .u64 0,.int .u64 0,.int .u64 0,.vs [.agg [.int .i64 2,.int .u64 0,.int .u64 8589934592,.int .u64 0,.int .u64 0,.vs []]]] := rfl
 have eR : Qc rX = .agg [.int .i64 3,.int .u64 0,.int .u64 0,.int .u64 0,.int .u64 0,.vs [.agg [.int .i64 5,.int .u64 0,.int .u64 0,.int .u64 0,.int .u64 0,.vs [.agg [.int .i64 2,.int .u64 0,.int .u64 8589934592,.int .u64 0,.int .u64 0,.vs []]]],.agg [.int .i64 2,.int .u64 0,.int .u64 17179869184,.int .u64 0,.int .u64 0,.vs []]]] := rfl
 have eX1 : Qc x1 = .agg [.int .i64 1,.int .u64 0,.int .u64 0,.int .u64 0,.int .u64 0,.vs []] := rfl
 have e97 : s97.cs = [.int .u64 0,.int .u64 8589934592,.int .u64 0,.int .u64 0] := rfl
 have e98 : s98.cs = [.int .u64 0,.int .u64 17179869184,.int .u64 0,.int .u64 0] := rfl
 have b1' : Zj zX [(0,1),(1,4),(5,1)] [(0,.int .i64 2),(1,.agg [.int .u64 0,.int .u64 8589934592,.int .u64 0,.int .u64 0])] = some (.agg [.int .i64 2,.int .u64 0,.int .u64 8589934592,.int .u64 0,.int .u64 0,.nils]) := b1
 have b2' : Zj zX [(0,1),(1,4),(5,1)] [(0,.int .i64 2),(1,.agg [.int .u64 0,.int .u64 17179869184,.int .u64 0,.int .u64 0])] = some (.agg [.int .i64 2,.int .u64 0,.int .u64 17179869184,.int .u64 0,.int .u64 0,.nils]) := b2
 have st' : ∀ G,E WC [.agg [.int .i64 2,.int .u64 0,.int .u64 8589934592,.int .u64 0,.int .u64 0,.nils]] G = some (.ret (Qc asX),G) := fun G => QpE G
 simp only [encS,e97,e98] at o1 o2
 simp only [Qw,eA,eB,eS,eR,eX1] at lt ca D1 D2 sm n1 n2 m1 m2 st'
 rw [Qiq,QqB]
 simp (maxDischargeDepth := 9) only [Qah,Qag,Qab,Qci,Qhd,Qgm,Qfr,Qfu,Qeb,Qcx,Qcz,Qhj,Qgc,Qan,Qgo,Qgn,Qgs,Qgy,Qhc,Qdi,Qdo,Qdt,Qde,Qdd,Qdc,Qhh,Qhf,Qcr,Qck,Qco,Qcj,Qcn,Qfv,Qhi,Qeu,decide_true,Bool.not_false,if_true,List.drop_zero,List.drop_succ_cons,List.length_cons,List.length_nil,Nat.zero_add,Bool.and_true,List.append_nil,Nat.reduceAdd,Qk,QA,List.drop_nil,Kr,Qu,Nat.le_refl,Nat.lt_add_one,Nat.zero_le,or_true,and_true,and_self,Nat.max_self,List.take_zero,List.take_succ_cons,o1,o2,b1',b2',st',lt,ca,D1,D2,sm,n1,n2,m1,m2]
theorem Qjg {r : X} (hn : r.size ≤ 1000000000000000) (hok : r.ok) (b : Int) : E X3 [Qc r,.int .i64 b] [] = some (.ret (.bool true),[]) := by
 have sz := fun G => Qf4 1000000000000000 r hn (Nat.le_refl _) G
 have aw := fun G => GO G
 have ov : QB [] (Qc r) = some (.ptr 0 0 0,[.var (Qc r).cells]) := Re (by simp)
 have ld : Qd true 6 [.var (Qc r).cells] (.ptr 0 0 0) = some (Qc r) := by
  rw [Qk]
  show Uv true 6 0 0 (some (.var (Qc r).cells)) = _
  rw [Qcz,List.drop_zero,Zo]
 rw [Qjs,Qjc]
 by_cases h : (60 : Int) < (r.size : Int)
 ·simp (maxDischargeDepth := 9) only [Qah,Qag,Qab,Qbd,Qci,Qfm,Qfr,Qed,Qgc,Qcr,Qfv,Qbm,decide_true,List.length_nil,Nat.le_refl,ov,ld,sz,h,aw]
  rfl
 ·have nl := fun G => VY 1000000000000 r (by omega) (Nat.le_refl _) G
  have nr := fun G => FH 1000000000000 r (by omega) (Nat.le_refl _) G
  have hg : Gd b r := WL b r (by omega)
  have D := fun G => WS 20000000000 r (by omega) (Nat.le_refl _) hok b hg G
  have R := fun G => D3 20000000000 r (by omega) (Nat.le_refl _) hok b hg G
  have hds := RL b r.size r (Nat.le_refl _)
  have hq := Nat.mul_le_mul (show r.size ≤ 60 by omega) (show r.size ≤ 60 by omega)
  have sm := fun G => UQ 1000000 (Qo b r) (Qo b r) (by omega) (by decide) G
  rw [UL] at sm
  generalize Qo b r = d at D R sm
  simp (maxDischargeDepth := 9) only [Qah,Qag,Qab,Qbc,Qci,Qhd,Qgm,Qfm,Qfr,Qed,Qdz,Qgc,Qcr,Qfv,Qbm,decide_false,List.length_nil,beq_self_eq_true,Nat.le_refl,ov,ld,sz,h,aw,nl,nr,D,R,sm]
  cases Zp r <;> rfl
end Go.Proofs.YtdnmpaielmfiiaaDoor
end
