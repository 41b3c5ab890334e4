/- La: a part of the proof that each law of this seat answers true at every input. No condition. -/
import Derived.Test.YtdnmpaielmfiiaaDoorTe
set_option linter.unusedVariables false
set_option linter.unusedSimpArgs false
set_option maxRecDepth 20000
section
namespace Go.Proofs.YtdnmpaielmfiiaaDoor
open Go Go.Ev Go.X7 Go.Srt
set_option maxRecDepth 20000
def leftX (x : X) (t : List UInt8) : X := t.foldl (fun x c => Qo (c.toNat : Int) x) x
def GdT : X → List UInt8 → Prop
 | x,[] => x.size ≤ 600000000000
 | x,c :: t => x.size ≤ 600000000000 ∧ Gd (c.toNat : Int) x ∧ GdT (Qo (c.toNat : Int) x) t
theorem QkF {x : X} {t : List UInt8} (h : GdT x t) : x.size ≤ 600000000000 := by
 cases t with
 | nil => exact h
 | cons c t => exact h.1
theorem Xh {t : List UInt8} {i : Nat} (h : i < t.length) : KE (.str t) (.int .i64 (i : Int)) = some (.int .u8 (t[i].toNat : Int)) := by
 rw [Rc]
 simp [Mu,ZY,h]
theorem QlW {t : List UInt8} (ht : t.length ≤ 9000000000000000000) {H : Qa} : ∀ (m i : Nat),t.length - i = m → i ≤ t.length → ∀ x : X,x.ok → GdT x (t.drop i) →
  GY H.length (.str t) (.ptr H.length 0 0) (.int .i64 (i : Int)) (.var (Qd x).cells :: H) = some (.ret (.bool (Zs (leftX x (t.drop i)))),H) := by
 intro m
 induction m with
 | zero =>
  intro i hm hi x hx hg
  have h' : ¬ (i : Int) < (t.length : Int) := by omega
  have hs := QkF hg
  have nl := fun G => UC 1000000000000 x (by omega) (Nat.le_refl _) G
  have ld : Qc true 6 (.var (Qd x).cells :: H) (.ptr H.length 0 0) = some (Qd x) := by
   rw [Qj,ZR,Qcz,List.drop_zero,Zx]
  rw [List.drop_of_length_le (by omega),Qe0]
  simp (maxDischargeDepth := 9) only [Qah,Qab,Qbc,Qfd,Qdx,Qef,Qcx,Qgc,Qcr,decide_false,Qz,Nat.le_refl,h',ld,nl]
  rfl
 | succ m ih =>
  intro i hm hi x hx hg
  have h : i < t.length := by omega
  have h' : (i : Int) < (t.length : Int) := by omega
  have w1 : IntKind.i64.wrap ((i : Int) + 1) = ((i + 1 : Nat) : Int) := by rw [wrap_i64 (by omega) (by omega)]; omega
  rw [List.drop_eq_getElem_cons h] at hg ⊢
  obtain ⟨g1,g2,g3⟩ := hg
  have D := fun G => UB 600000000000 x g1 (Nat.le_refl _) hx _ g2 G
  have hc : (t[i].toNat : Int) < 256 := by have := t[i].toNat_lt; omega
  have w2 : IntKind.i64.wrap (t[i].toNat : Int) = (t[i].toNat : Int) := wrap_i64 (by omega) (by omega)
  have ix : KE (.str t) (.int .i64 (i : Int)) = some (.int .u8 (t[i].toNat : Int)) := by
   exact Xh h
  have ld : Qc true 6 (.var (Qd x).cells :: H) (.ptr H.length 0 0) = some (Qd x) := by
   rw [Qj,ZR,Qcz,List.drop_zero,Zx]
  have sv : Qs H.length 6 (.var (Qd x).cells :: H) (.ptr H.length 0 0) (Qd (Qo (t[i].toNat : Int) x)) = some (.tup [],.var (Qd (Qo (t[i].toNat : Int) x)).cells :: H) := by
   have := Y6 (H := H) (G := .var (Qd x).cells :: H) (t := H.length) (Nat.le_refl _) (cs := (Qd x).cells) (by simp) (ZR _ _) (x := Qd (Qo (t[i].toNat : Int) x)) (by simp) (by simp)
   rw [this]; simp [Qn]
  have k2 := ih (i + 1) (by omega) (by omega) _ (Kc _ hx) g3
  rw [Qe0]
  simp (maxDischargeDepth := 9) only [Qah,Qag,Qab,Qbd,Qey,Qfd,Qdx,Qef,decide_true,h',ld,ix,w2,D,sv,w1,k2]
  rfl
theorem R7 {x : X} (hx : x.ok) {t : List UInt8} (ht : t.length ≤ 9000000000000000000) (hg : GdT x t) (H : Qa) : E UO [Qd x,.str t] H = some (.ret (.bool (Zs (leftX x t))),H) := by
 have l := QlW ht (H := H) t.length 0 rfl (Nat.zero_le _) x hx hg
 simp only [List.drop_zero,Qam] at l
 have ov : QD H (Qd x) = some (.ptr H.length 0 0,.var (Qd x).cells :: H) := R9 (by simp)
 rw [Qj6,QhO]
 simp (maxDischargeDepth := 9) only [Qag,Qfv,Qbm,ov,l]
def s97 : S4 := ⟨0,8589934592,0,0⟩
def s98 : S4 := ⟨0,17179869184,0,0⟩
theorem Qnl : S4.rng s97 97 97 := ⟨by decide,by decide⟩
theorem Qiy : S4.rng s98 98 98 := ⟨by decide,by decide⟩
abbrev aX : X := .mk 2 s97 []
abbrev bX : X := .mk 2 s98 []
abbrev asX : X := .mk 5 S4.zero [aX]
abbrev rX : X := .mk 3 S4.zero [asX,bX]
theorem QjT : Jh aX = asX := rfl
theorem Qpi : Q8 [asX,bX] = rX := rfl
theorem d97 : Qo 97 rX = rX := by rfl
theorem d98 : Qo 98 rX = x1 := by rfl
theorem Qh0 : Qo 97 x1 = x0 := by rfl
theorem Qlc (G : Qa) : E WI [.agg [.int .i64 2,.int .u64 0,.int .u64 8589934592,.int .u64 0,.int .u64 0,.nils]] G = some (.ret (Qd asX),G) := by
 have n20 : ¬ (2 : Int) = 0 := by decide
 have n21 : ¬ (2 : Int) = 1 := by decide
 have n25 : ¬ (2 : Int) = 5 := by decide
 have lt : ∀ z,Zq 6 1 z [(0,.agg [.int .i64 2,.int .u64 0,.int .u64 8589934592,.int .u64 0,.int .u64 0,.nils])] = some (.vs [Qd aX]) := fun z => by
  rw [WA]; rfl
 have b := bXv 5 [Qd aX]
 have q := Qbl G.length asX
 have e5 : Qd asX = .agg [.int .i64 5,.int .u64 0,.int .u64 0,.int .u64 0,.int .u64 0,.vs [Qd aX]] := rfl
 have eA : Qd aX = .agg [.int .i64 2,.int .u64 0,.int .u64 8589934592,.int .u64 0,.int .u64 0,.vs []] := rfl
 rw [e5] at q ⊢
 rw [eA] at q b lt ⊢
 rw [QhA,XC]
 simp (maxDischargeDepth := 9) only [Qah,Qag,Qbc,Qet,Qeb,Qcx,Qcz,Qhj,Qan,Qgo,Qgn,Qgs,Qgy,Qdi,Qdt,Qde,Qdd,Qdc,Qhh,Qhf,Qcr,Qck,Qcj,Qcn,Qfv,Qhi,Qem,Qgb,Qga,Qbe,Qbx,Qca,Qbt,Qdb,Qda,decide_false,if_true,List.drop_zero,List.drop_succ_cons,List.length_cons,List.length_nil,Nat.add_zero,Nat.zero_add,Option.bind_some,Option.map_some,Bool.and_true,List.append_nil,Nat.reduceAdd,Qj,Qz,List.drop_nil,Qu,Nat.le_refl,Nat.lt_add_one,Nat.zero_le,true_or,and_true,and_self,Nat.max_self,List.take_zero,List.take_succ_cons,n20,n21,n25]
 rw [Tg]
 simp (maxDischargeDepth := 9) only [Qah,Qag,Qcx,Qcz,Qan,Qgo,Qgn,Qgs,Qhc,Qhh,Qhf,Qcr,Qck,Qcj,Qcn,Qhi,if_true,List.drop_zero,List.drop_succ_cons,List.length_cons,List.length_nil,Nat.zero_add,Bool.and_true,List.append_nil,Nat.reduceAdd,Qj,Qz,List.drop_nil,Qu,Nat.le_refl,Nat.lt_add_one,true_or,and_true,and_self,List.take_zero,List.take_succ_cons,lt,b,q]
set_option maxHeartbeats 1000000 in
theorem D7 (H : Qa) : E Nk [] H = some (.ret (.bool true),H) := by
 have o1 := fun G => Qsa Qnl G
 have o2 := fun G => Qsa Qiy G
 have b1 := bXs 2 s97
 have b2 := bXs 2 s98
 have okr : rX.ok := ⟨by decide,⟨by decide,⟨by decide,trivial⟩,trivial⟩,⟨by decide,trivial⟩,trivial⟩
 have st := fun G => AB aX G
 rw [QjT] at st
 have lt : ∀ z,Zq 6 2 z [(0,Qd asX),(1,.agg [.int .i64 2,.int .u64 0,.int .u64 17179869184,.int .u64 0,.int .u64 0,.nils])] = some (.vs (Qw [asX,bX])) := fun z => by
  rw [X5 (sz := 6) (by simp) (by simp) (by rw [Ub]; exact NY _) rfl rfl rfl,Ub]; rfl
 have ca := fun G => Ni (H := G) (Sl.vs [asX,bX]) (by decide)
 rw [Qpi] at ca
 have D1 := fun G => UB 600000000000 rX (by decide) (Nat.le_refl _) okr 97 (VV _ _ (by decide)) G
 have D2 := fun G => UB 600000000000 rX (by decide) (Nat.le_refl _) okr 98 (VV _ _ (by decide)) G
 rw [d97] at D1
 rw [d98] at D2
 have sm := fun G => BR 1000000 rX rX (by decide) (by decide) G
 rw [Rl] at sm
 have n1 := fun G => UC 1000000 rX (by decide) (by decide) G
 rw [show Zs rX = false from rfl] at n1
 have n2 := fun G => UC 1000000 asX (by decide) (by decide) G
 rw [show Zs asX = true from rfl] at n2
 have g97 : Gd 97 rX := VV _ _ (by decide)
 have g98 : Gd 98 rX := VV _ _ (by decide)
 have m1 := fun G => R7 okr (t := [97,97,98]) (by decide) ⟨by decide,g97,by rw [show ((97 : UInt8).toNat : Int) = 97 from rfl,d97]; exact ⟨by decide,g97,by rw [show ((97 : UInt8).toNat : Int) = 97 from rfl,d97]; exact ⟨by decide,g98,by rw [show ((98 : UInt8).toNat : Int) = 98 from rfl,d98]; show (1 : Nat) ≤ _; decide⟩⟩⟩ G
 rw [show Zs (leftX rX [97,97,98]) = true from rfl] at m1
 have m2 := fun G => R7 okr (t := [97,98,97]) (by decide) ⟨by decide,g97,by rw [show ((97 : UInt8).toNat : Int) = 97 from rfl,d97]; exact ⟨by decide,g98,by rw [show ((98 : UInt8).toNat : Int) = 98 from rfl,d98]; exact ⟨by decide,VV _ _ (by decide),by rw [show ((97 : UInt8).toNat : Int) = 97 from rfl,Qh0]; show (1 : Nat) ≤ _; decide⟩⟩⟩ G
 rw [show Zs (leftX rX [97,98,97]) = false from rfl] at m2
 have eA : Qd aX = .agg [.int .i64 2,.int .u64 0,.int .u64 8589934592,.int .u64 0,.int .u64 0,.vs []] := rfl
 have eB : Qd bX = .agg [.int .i64 2,.int .u64 0,.int .u64 17179869184,.int .u64 0,.int .u64 0,.vs []] := rfl
 have eS : Qd asX = .agg [.int .i64 5,.int .u64 0,.int .u64 0,.int .u64 0,.int .u64 0,.vs [.agg [.int .i64 2,.int .u64 0,.int .u64 8589934592,.int .u64 0,.int .u64 0,.vs []]]] := rfl
 have eR : Qd rX = .agg [.int .i64 3,.int .u64 0,.int .u64 0,.int .u64 0,.int .u64 0,.vs [.agg [.int .i64 5,.int .u64 0,.int .u64 0,.int .u64 0,.int .u64 0,.vs [.agg [.int .i64 2,.int .u64 0,.int .u64 8589934592,.int .u64 0,.int .u64 0,.vs []]]],.agg [.int .i64 2,.int .u64 0,.int .u64 17179869184,.int .u64 0,.int .u64 0,.vs []]]] := rfl
 have eX1 : Qd x1 = .agg [.int .i64 1,.int .u64 0,.int .u64 0,.int .u64 0,.int .u64 0,.vs []] := rfl
 have e97 : s97.cs = [.int .u64 0,.int .u64 8589934592,.int .u64 0,.int .u64 0] := rfl
 have e98 : s98.cs = [.int .u64 0,.int .u64 17179869184,.int .u64 0,.int .u64 0] := rfl
 have b1' : Zj zX [(0,1),(1,4),(5,1)] [(0,.int .i64 2),(1,.agg [.int .u64 0,.int .u64 8589934592,.int .u64 0,.int .u64 0])] = some (.agg [.int .i64 2,.int .u64 0,.int .u64 8589934592,.int .u64 0,.int .u64 0,.nils]) := b1
 have b2' : Zj zX [(0,1),(1,4),(5,1)] [(0,.int .i64 2),(1,.agg [.int .u64 0,.int .u64 17179869184,.int .u64 0,.int .u64 0])] = some (.agg [.int .i64 2,.int .u64 0,.int .u64 17179869184,.int .u64 0,.int .u64 0,.nils]) := b2
 have st' : ∀ G,E WI [.agg [.int .i64 2,.int .u64 0,.int .u64 8589934592,.int .u64 0,.int .u64 0,.nils]] G = some (.ret (Qd asX),G) := fun G => Qlc G
 simp only [encS,e97,e98] at o1 o2
 simp only [Qw,eA,eB,eS,eR,eX1] at lt ca D1 D2 sm n1 n2 m1 m2 st'
 rw [Qo1,Qp8]
 simp (maxDischargeDepth := 9) only [Qah,Qag,Qab,Qci,Qhd,Qgm,Qfr,Qfu,Qeb,Qcx,Qcz,Qhj,Qgc,Qan,Qgo,Qgn,Qgs,Qgy,Qhc,Qdi,Qdo,Qdt,Qde,Qdd,Qdc,Qhh,Qhf,Qcr,Qck,Qco,Qcj,Qcn,Qfv,Qhi,Qeu,decide_true,Bool.not_false,if_true,List.drop_zero,List.drop_succ_cons,List.length_cons,List.length_nil,Nat.zero_add,Bool.and_true,List.append_nil,Nat.reduceAdd,Qj,Qz,List.drop_nil,KG,Qu,Nat.le_refl,Nat.lt_add_one,Nat.zero_le,or_true,and_true,and_self,Nat.max_self,List.take_zero,List.take_succ_cons,o1,o2,b1',b2',st',lt,ca,D1,D2,sm,n1,n2,m1,m2]
end Go.Proofs.YtdnmpaielmfiiaaDoor
end
