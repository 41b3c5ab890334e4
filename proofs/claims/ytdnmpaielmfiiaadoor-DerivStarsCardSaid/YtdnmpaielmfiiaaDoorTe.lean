/- Te: a part of the proof that each law of this seat answers true at every input. No condition. -/
import Derived.Test.YtdnmpaielmfiiaaDoorTd
import Derived.Test.YtdnmpaielmfiiaaDoorXb
set_option linter.unusedVariables false
set_option linter.unusedSimpArgs false
set_option maxRecDepth 20000
section
namespace Go.Proofs.YtdnmpaielmfiiaaDoor
open Go Go.Ev Go.X7 Go.Srt
set_option maxRecDepth 20000
theorem n51 : ¬ (5 : Int) = 1 := by decide
theorem n31 : ¬ (3 : Int) = 1 := by decide
theorem n35 : ¬ (3 : Int) = 5 := by decide
theorem n41 : ¬ (4 : Int) = 1 := by decide
theorem n45 : ¬ (4 : Int) = 5 := by decide
theorem n43 : ¬ (4 : Int) = 3 := by decide
theorem Qis {x j : Nat} (hx : x < 18446744073709551616) (hj : j < 64) : Qb .and 6 (.int .u64 (x : Int)) (.int .u64 ((2 ^ j : Nat) : Int)) = some (.int .u64 ((x &&& 2 ^ j : Nat) : Int)) := by
 rw [Qdy]
 have h2 := P0 hj
 have hb : IntKind.u64.bits = 64 := rfl
 have e1 : (BitVec.ofInt 64 (x : Int) &&& BitVec.ofInt 64 ((2 ^ j : Nat) : Int)).toNat = x &&& 2 ^ j := by
  rw [BitVec.toNat_and,BitVec.ofInt_natCast,BitVec.ofInt_natCast,BitVec.toNat_ofNat,BitVec.toNat_ofNat,Nat.mod_eq_of_lt (by simpa using hx),Nat.mod_eq_of_lt (by simpa using h2)]
 rw [hb,e1]
 have h3 : x &&& 2 ^ j ≤ 2 ^ j := Nat.and_le_right
 generalize x &&& 2 ^ j = y at h3
 simp only [IntKind.wrap,IntKind.bits,IntKind.signed,Bool.false_and,Bool.false_eq_true,if_false,Int.reducePow]
 congr 2
 omega
theorem QkN (x j : Nat) : x &&& 2 ^ j = if x.testBit j = true then 2 ^ j else 0 := by
 refine Nat.eq_of_testBit_eq fun i => ?_
 rw [Nat.testBit_and,Nat.testBit_two_pow]
 by_cases h : j = i
 ·subst h
  cases ht : x.testBit j <;> simp [Nat.testBit_two_pow]
 ·cases ht : x.testBit j <;> simp [h,Nat.testBit_two_pow]
theorem QnK (x j : Nat) : decide (((x &&& 2 ^ j : Nat) : Int) = 0) = !x.testBit j := by
 have hp := Nat.two_pow_pos j
 rw [QkN]
 cases ht : x.testBit j with
 | true =>
  rw [if_pos rfl]
  simp only [Bool.not_true,decide_eq_false_iff_not]
  omega
 | false =>
  rw [if_neg (by simp)]
  rfl
theorem Qix {s : S4} (hs : s.ok) (b : Int) (H : Qa) : E DZ [encS s,.int .i64 b] H = some (.ret (.bool (s.hasB b)),H) := by
 rw [Qpe,QhM,S4.hasB]
 by_cases h0 : (0 : Int) ≤ b
 ·by_cases h1 : b < 256
  ·obtain ⟨n,rfl⟩ : ∃ n : Nat,b = n := ⟨b.toNat,by omega⟩
   have hn : n < 256 := by omega
   have q := Dp n hn
   have r := CK n hn
   have ld := CM s H (j := n / 64) (by omega)
   have sl := QgG (e := 6) (j := n % 64) (Nat.mod_lt _ (by omega))
   have an := Qis (S4.w_lt hs (n / 64)) (Nat.mod_lt n (show 64 > 0 by omega))
   have e : ((n : Int)).toNat = n := rfl
   have hh : s.has n = (s.w (n / 64)).testBit (n % 64) := rfl
   have ab := QnK (s.w (n / 64)) (n % 64)
   have hj : n / 64 < 4 := by omega
   simp only [Qah,Qag,Qci,Qfm,Qfr,Qeh,Qef,Qec,Qcx,Qcz,Qgc,Qan,Qgo,Qgn,Qgs,Qcr,Qcj,Qfv,decide_true,Nat.zero_add,Bool.and_true,Bool.true_and,Qj,Nat.le_refl,h0,h1,q,r,UV hj,Nat.mul_one,ld,sl,an,e,hh,ab,Bool.not_not]
  ·simp only [Qah,Qag,Qci,Qcf,Qfm,Qfr,Qfq,Qef,Qec,Qcx,Qgc,Qan,Qgo,Qgn,Qgs,Qcr,Qfv,decide_true,decide_false,Bool.and_true,Bool.false_and,Bool.and_false,Nat.le_refl,h0,h1]
 ·simp only [Qah,Qag,Qcf,Qfm,Qfq,Qec,Qcx,Qgc,Qan,Qgo,Qgn,Qgs,Qcr,Qfv,decide_false,Bool.and_true,Bool.false_and,Nat.le_refl,h0]
theorem QiP (l : List X) : (!(l.any fun x => !Zs x)) = W9 l := by
 rw [QdH]
 induction l with
 | nil => rfl
 | cons x l ih => simp only [List.any_cons,List.all_cons,Bool.not_or,Bool.not_not,ih]
theorem UC : ∀ (n : Nat) (x : X),x.size ≤ n → n ≤ 1000000000000 → ∀ H,E JH [Qd x] H = some (.ret (.bool (Zs x)),H)
 | 0,x,h,_,_ => by have := Yl x; omega
 | n + 1,.mk k s ks,h,hn,H => by
  have hsz : Qk ks ≤ n := by simp only [X.size] at h; omega
  have hll := Yq ks
  have hq : ∀ x ∈ ks,∀ G,E JH [Qd x] G = some (.ret (.bool (Zs x)),G) := fun x hx G => UC n x (Nat.le_trans (Yv hx) hsz) (by omega) G
  have hq1 : ∀ x ∈ ks,∀ G,E N8 [Qd x] G = some (.ret (.bool (!Zs x)),G) := fun x hx G => by
   have := fun G => hq x hx G
   have hv : ∀ G : Qa,QD G (Qd x) = some (.ptr G.length 0 0,.var (Qd x).cells :: G) := fun G => by rw [R9 (by simp)]
   rw [QkG,Qpq]
   simp only [Qah,Qag,Qab,Qfu,Qcx,Qcz,Qgc,Qcr,Qcj,Qfv,Qhi,Qbg,Qbm,Qbf,Qbo,List.drop_zero,Qj,Nat.le_refl,hv,this]
  have c1 := fun G => DN (H := G) (Sl.vs ks) (by omega) (f := N8) (cap := []) (q := fun x => !Zs x) fun x hx => hq1 x hx G
  have c2 := fun G => DN (H := G) (Sl.vs ks) (by omega) (f := JH) (cap := []) (q := Zs) fun x hx => hq x hx G
  have j1 : ∀ G,G6 H.length G = some (.ret (.bool false),Q2 G H.length) := fun G => by
   rw [QlR]; simp only [Qgc]
  have e2 := QdE ks
  have e1 := QiP ks
  rw [Qow,QiX,Zs,QE,e2,← e1]
  by_cases h1 : k = 1
  ·simp only [Qah,Qag,Qbd,Qet,Qeb,Qcx,Qcz,Qhj,Qgc,Qan,Qgo,Qgn,Qgs,Qhc,Qcr,Qcj,Qfv,decide_true,if_true,List.drop_zero,List.drop_succ_cons,Nat.add_zero,Nat.zero_add,Bool.and_true,Qj,Nat.le_refl,true_or,h1]
  ·by_cases h5 : k = 5
   ·simp only [Qah,Qag,Qbd,Qbc,Qet,Qeb,Qcx,Qcz,Qhj,Qgc,Qan,Qgo,Qgn,Qgs,Qhc,Qcr,Qcj,Qfv,decide_true,decide_false,if_true,List.drop_zero,List.drop_succ_cons,Nat.add_zero,Nat.zero_add,Bool.and_true,Qj,Nat.le_refl,or_true,h5,n51]
   ·by_cases h3 : k = 3
    ·simp only [Qah,Qag,Qab,Qbd,Qbc,Qet,Qfu,Qeb,Qcx,Qcz,Qhj,Qgc,Qan,Qgo,Qgn,Qgs,Qhc,Qcr,Qcj,Qfv,decide_true,decide_false,if_true,if_false,List.drop_zero,List.drop_succ_cons,Nat.add_zero,Nat.zero_add,Bool.and_true,Qj,Nat.le_refl,or_false,h3,n31,n35,c1]
    ·by_cases h4 : k = 4
     ·simp only [Qah,Qag,Qab,Qbd,Qbc,Qet,Qeb,Qcx,Qcz,Qhj,Qgc,Qan,Qgo,Qgn,Qgs,Qhc,Qcr,Qcj,Qfv,decide_true,decide_false,if_true,if_false,List.drop_zero,List.drop_succ_cons,Nat.add_zero,Nat.zero_add,Bool.and_true,Qj,Nat.le_refl,or_false,h4,n41,n45,n43,c2]
     ·simp only [Qah,Qag,Qbc,Qet,Qeb,Qcx,Qcz,Qhj,Qgc,Qan,Qgo,Qgn,Qgs,Qhc,Qcr,Qcj,Qfv,decide_false,if_false,List.drop_zero,List.drop_succ_cons,Nat.add_zero,Nat.zero_add,Bool.and_true,Qj,Nat.le_refl,or_false,h1,h5,h3,h4,j1]
theorem Qnw (l : List X) : Px 6 (Qw l) = true := by
 cases l with
 | nil => rfl
 | cons x l => simp [Qw,Px]
theorem QcQ {l : List X} {k : Nat} (h : k ≤ l.length) : JO 6 (.vs (Qw l)) (some (.int .i64 (k : Int))) none none = some (.vs (Qw (l.drop k))) := by
 rw [UI]
 have e : List.drop k (Qw l) = Qw (l.drop k) := by rw [WW,WW,List.map_drop]
 have h2 : (k : Int) ≤ ((Qw l).length : Int) := by simp; omega
 simp only [Vk,Qnw,if_true,Option.isSome_none,Bool.false_eq_true,if_false,QW,Option.bind_some]
 rw [if_pos ⟨by omega,h2⟩]
 simp [List.take_of_length_le,e]
theorem Out7.app1 {B b : Nat} {G0 G : Qa} {o : V} {l : List X} (h : Out7 B G0 o l) (hU : Up G0 G) (x : X) (hn : l.length < 1000000000000) (hB : B ≤ G0.length) :
  ∃ v' G',Z1 b 6 64 true o (.vs [Qd x]) G = some (v',G') ∧ Out7 B G' v' (l ++ [x]) ∧ (∀ H,H.length ≤ B → Up H G → Up H G') ∧ (∀ j,G0.length ≤ j → j < G.length → Qh G' j = Qh G j) ∧ G.length ≤ G'.length := by
 have hr : Yj (l.length + 1) 64 = true := by simp [Yj]; omega
 cases h with
 | nils =>
  refine ⟨_,_,Z0.append_nil (by decide),.rs G.length 0 [x] (by have := hU.len; omega) (by simp),fun H _ h => h.cons _,fun j _ hj => JJ _ hj,by simp⟩
 | rs i ver l hb hg =>
  have hi := Q4 hg
  have hg' : Qh G i = some (.row ver 6 true (Qy l)) := by rw [hU.get hi]; exact hg
  refine ⟨_,_,Z0.append hg' rfl hr,?_,fun H hH h => h.set (by omega) _,fun j hj hj2 => JD _ (by omega),by simp⟩
  have : (l ++ [x]).length = l.length + 1 := by simp
  rw [← this]
  exact .rs i (ver + 1) (l ++ [x]) hb (by rw [Yf _ (Q4 hg')])
theorem GV {H G : Qa} (hU : Up H G) {t : Nat} (ht : H.length ≤ t) {cs : List V} (hc : cs.length = 6) (hg : Qh G t = some (.var cs)) (y : X) :
  ∃ G',Qs H.length 6 G (.ptr t 0 0) (Qd y) = some (.tup [],G') ∧ Qc true 6 G' (.ptr t 0 0) = some (Qd y) ∧ rt false H.length (Qd y) G' = some (.ret (Qd y),H) := by
 have st := Y6 (H := H) (G := G) (t := t) ht hc hg (x := Qd y) (by simp) (by simp)
 have hs : Qh (Qn G t (.var (Qd y).cells)) t = some (.var (Qd y).cells) := Qcl (Q4 hg)
 refine ⟨_,st,by rw [Qj,hs,Qcz,List.drop_zero,Zx],?_⟩
 rw [Qbl,(hU.set ht _).trunc]
theorem QmD (H : Qa) : E Lw [.vs []] H = some (.ret .emp,H) := by
 rw [show E = EV Tryd.prog YW D from rfl,Kx (g := Bu) rfl]
 rfl
theorem Qn8 {l : List X} (h0 : l ≠ []) (hl : l.length ≤ 1000000000000) (H : Qa) : E Lw [.vs (Qw l)] H = some (.ret (.rs H.length 0 6 0 l.length),.row 0 6 true (Qy l) :: H) := by
 rw [show E = EV Tryd.prog YW D from rfl,Kx (g := Bu) rfl]
 match l,h0 with
 | x :: l,_ =>
  have h1 := X3 (x :: l)
  have h2 : Qv (flat (Qw (x :: l))) = true := by rw [Eu]; exact Z0.cellsF_scal _
  have h3 := Eu (x :: l)
  simp only [Qw] at h1 h2 h3
  have h4 : l.length + 1 ≤ 1000000000000 := by simpa using hl
  have h5 : Qv (Qy (x :: l)) = true := Z0.cellsF_scal _
  simp only [Qw,Bu,h1,h3,h4,h5,and_self,true_and,and_true,if_true,Qbp,List.length_cons]
theorem Qq2 (x : X) (H : Qa) : E Bt [.emp,.int .i64 0,.vs [Qd x]] H = some (.ret (.rs H.length 0 6 0 [x].length),.row 0 6 true (Qy [x]) :: H) := by
 rw [show E = EV Tryd.prog YW D from rfl,Kx (g := WC) rfl]
 obtain ⟨cs,hcs⟩ : ∃ cs,Qd x = .agg cs := by cases x; exact ⟨_,rfl⟩
 have h6 : cs.length = 6 := by have := Qbg x; rw [hcs] at this; exact this
 have hsc : Qv cs = true := by have := Qbm x; rw [hcs] at this; exact this
 have e : Qy [x] = cs := by
  show (Qd x).cells ++ [] = _
  rw [hcs,List.append_nil]; rfl
 rw [hcs]
 simp only [WC,h6,hsc,and_self,if_true,e,List.length_cons,List.length_nil]
theorem QqG {H : Qa} {l : List X} (x : X) (hl : l.length ≤ 1000000000000) :
  E Bt [.rs H.length 0 6 0 l.length,.int .i64 0,.vs [Qd x]] (.row 0 6 true (Qy l) :: H) = some (.ret (.rs H.length 1 6 0 (x :: l).length),.row 1 6 true (Qy (x :: l)) :: H) := by
 rw [show E = EV Tryd.prog YW D from rfl,Kx (g := WC) rfl]
 obtain ⟨cs,hcs⟩ : ∃ cs,Qd x = .agg cs := by cases x; exact ⟨_,rfl⟩
 have h6 : cs.length = 6 := by have := Qbg x; rw [hcs] at this; exact this
 have hsc : Qv cs = true := by have := Qbm x; rw [hcs] at this; exact this
 have e : Qy (x :: l) = cs ++ Qy l := by
  show (Qd x).cells ++ Qy l = _
  rw [hcs]; rfl
 have hcl := Z8 l
 have h3 : Qv ((Qy l).take (l.length * 6)) = true := by rw [List.take_of_length_le (by omega)]; exact Z0.cellsF_scal l
 have h1 : ¬ (l.length + 1) * 6 ≤ l.length * 6 := by omega
 have hs : Qn (.row 0 6 true (Qy l) :: H) H.length (.row 1 6 true (cs ++ Qy l)) = .row 1 6 true (cs ++ Qy l) :: H := by simp [Qn]
 rw [hcs]
 simp only [WC,ZR,h6,hsc,h3,hl,hcl,h1,and_self,if_true,if_false,e,List.length_cons,Nat.zero_add,hs]
theorem QqB {H : Qa} {l : List X} (x : X) (hl : l.length ≤ 1000000000000) : ∃ v w G,E Lw [.vs (Qw l)] H = some (.ret v,G) ∧ Up H G ∧
  E Bt [v,.int .i64 0,.vs [Qd x]] G = some (.ret (.rs H.length w 6 0 (x :: l).length),.row w 6 true (Qy (x :: l)) :: H) := by
 by_cases h : l = []
 ·subst h
  exact ⟨_,_,_,QmD H,Up.refl _,Qq2 x H⟩
 ·exact ⟨_,_,_,Qn8 h hl H,(Up.refl _).cons _,QqG x hl⟩
theorem QbF {b : Int} {ks : List X} {i : Nat} (h : i < ks.length) : Zu b (ks.drop i) = Q8 (Qo b ks[i] :: ks.drop (i + 1)) :: (if Zs ks[i] = true then Zu b (ks.drop (i + 1)) else []) := by
 rw [List.drop_eq_getElem_cons h,Zu]
theorem QfR {b : Int} {ks : List X} {i : Nat} (h : i < ks.length) (g : GdW b (ks.drop i)) : Gd b ks[i] ∧ (Qo b ks[i]).size + Qk (ks.drop (i + 1)) ≤ LIM ∧ (Zs ks[i] = true → GdW b (ks.drop (i + 1))) := by
 rw [List.drop_eq_getElem_cons h,GdW] at g
 exact g
theorem Qm1 {k : Int} {s : S4} {ks : List X} {b : Int} {H : Qa} (hok : ∀ x ∈ ks,x.ok) (hs : Qk ks ≤ 1000000000000)
  (hd : ∀ x ∈ ks,Gd b x → ∀ G,E Y5 [Qd x,.int .i64 b] G = some (.ret (Qd (Qo b x)),G)) : ∀ (m i : Nat),ks.length - i = m → i ≤ ks.length → ∀ (acc : List X) (o : V) (G : Qa),
   Out7 (H.length + 2) G o acc → Up (.var zX :: .var (Qd (.mk k s ks)).cells :: H) G → GdW b (ks.drop i) → acc.length ≤ i → (∀ x ∈ acc,x.ok) → Qk acc + Qk (Zu b (ks.drop i)) ≤ 600000000000 →
  Pv H.length (.int .i64 b) (.ptr H.length 0 0) (.ptr (H.length + 1) 0 0) o (.vs (Qw ks)) (.int .i64 (ks.length : Int)) (.int .i64 (i : Int)) G = some (.ret (Qd (Ze (acc ++ Zu b (ks.drop i)))),H) := by
 have hll := Yq ks
 have hU0 : Up H (.var zX :: .var (Qd (.mk k s ks)).cells :: H) := ((Up.refl H).cons _).cons _
 have hrr : ∀ G,Up (.var zX :: .var (Qd (.mk k s ks)).cells :: H) G → Qh G H.length = some (.var (Qd (.mk k s ks)).cells) := fun G hU => by
  rw [hU.get (by simp only [List.length_cons]; omega),JJ _ (by simp),ZR]
 have hz : ∀ G,Up (.var zX :: .var (Qd (.mk k s ks)).cells :: H) G → Qh G (H.length + 1) = some (.var zX) := fun G hU => by
  rw [hU.get (by simp)]
  exact ZR (.var zX) (.var (Qd (.mk k s ks)).cells :: H)
 have fin : ∀ (acc : List X) (o : V) (G : Qa),Out7 (H.length + 2) G o acc → Up (.var zX :: .var (Qd (.mk k s ks)).cells :: H) G → (∀ x ∈ acc,x.ok) → Qk acc ≤ 600000000000 →
   PF H.length (.ptr (H.length + 1) 0 0) o G = some (.ret (Qd (Ze acc)),H) := fun acc o G ho hU hoa hsa => by
  have e1 := XL ho.sl (by omega) hoa
  obtain ⟨G',s1,s2,s3⟩ := GV (hU0.trans hU) (t := H.length + 1) (by omega) (cs := zX) rfl (hz G hU) (Ze acc)
  rw [Qob]
  simp only [Qah,Qag,Qab,e1,s1,s2,s3]
 intro m
 induction m with
 | zero =>
  intro i hm hi acc o G ho hU hgd hlen hoa hsz
  have h' : ¬ (i : Int) < (ks.length : Int) := by omega
  rw [List.drop_of_length_le (by omega)] at hsz ⊢
  simp only [Zu,List.append_nil,Qk] at hsz ⊢
  have f := fin acc o G ho hU hoa (by omega)
  rw [Xm]
  simp only [Qah,Qag,Qbc,Qfm,Qet,Qdx,Qef,Qan,Qgo,Qgn,Qgs,Qgy,Qhh,Qhf,Qcj,Qcn,Qfv,decide_false,List.length_cons,List.length_nil,Nat.zero_add,Bool.and_true,Nat.reduceAdd,Qj,Qz,Nat.le_refl,and_true,and_self,h',f]
 | succ m ih =>
  intro i hm hi acc o G ho hU hgd hlen hoa hsz
  have h : i < ks.length := by omega
  have h' : (i : Int) < (ks.length : Int) := by omega
  have w1 : IntKind.i64.wrap ((i : Int) + 1) = ((i + 1 : Nat) : Int) := by rw [wrap_i64 (by omega) (by omega)]; omega
  obtain ⟨g1,g2,g3⟩ := QfR h hgd
  have elim : LIM = 600000000000 := rfl
  rw [QbF h] at hsz ⊢
  simp only [Qk] at hsz
  have hxo := hok ks[i] (List.getElem_mem h)
  have hxs := Yv (List.getElem_mem h)
  have D := fun G => hd ks[i] (List.getElem_mem h) g1 G
  have nl := fun G => UC 1000000000000 ks[i] (by omega) (Nat.le_refl _) G
  have i1 := Y8 h .i64
  have sl := QcQ (l := ks) (k := i + 1) (by omega)
  have hkl : (ks.drop (i + 1)).length ≤ 1000000000000 := by rw [List.length_drop]; omega
  obtain ⟨v,w,G2,c1,c2,c3⟩ := QqB (H := .var (Qd ks[i]).cells :: G) (l := ks.drop (i + 1)) (Qo b ks[i]) hkl
  generalize hG3 : (Blk.row w 6 true (Qy (Qo b ks[i] :: ks.drop (i + 1))) :: .var (Qd ks[i]).cells :: G) = G3 at c3
  have hU3 : Up G G3 := by rw [← hG3]; exact ((Up.refl G).cons _).cons _
  have ca := XI (H := G3) (v := .rs (G.length + 1) w 6 0 (Qo b ks[i] :: ks.drop (i + 1)).length) (l := Qo b ks[i] :: ks.drop (i + 1)) (.rs _ _ _ [] (by
   rw [← hG3]
   simp [Q9])) (by simp only [Qk]; omega)
  have hv3 : Qh G3 G.length = some (.var (Qd ks[i]).cells) := by
   rw [← hG3,JJ _ (by simp),ZR]
  have hv2 : Qh G2 G.length = some (.var (Qd ks[i]).cells) := by rw [c2.get (by simp),ZR]
  have hl3 : G.length < G3.length := by rw [← hG3]; simp only [List.length_cons]; omega
  rw [List.length_cons] at ca
  obtain ⟨v',G4,q1,q2,q3,q4,q5⟩ := ho.app1 (b := H.length) hU3 (Q8 (Qo b ks[i] :: ks.drop (i + 1))) (by omega) (by have := hU.len; simpa using this)
  have hU4 := q3 _ (by simp) (hU.trans hU3)
  have hv4 : Qh G4 G.length = some (.var (Qd ks[i]).cells) := by rw [q4 _ (Nat.le_refl _) hl3]; exact hv3
  have hr0 : Qh (.var (Qd ks[i]).cells :: G) H.length = some (.var (Qd (.mk k s ks)).cells) := hrr _ (hU.cons _)
  have hHG : H.length < G.length := by have := hU.len; simp at this; omega
  have co : (Q8 (Qo b ks[i] :: ks.drop (i + 1))).ok := Mm fun z hz => by
   rcases List.mem_cons.1 hz with rfl | hz
   ·exact Kc b hxo
   ·exact hok z (List.mem_of_mem_drop hz)
  have hoa' : ∀ x ∈ acc ++ [Q8 (Qo b ks[i] :: ks.drop (i + 1))],x.ok := fun x hx => by
   rcases List.mem_append.1 hx with hx | hx
   ·exact hoa x hx
   ·obtain rfl := List.mem_singleton.1 hx; exact co
  have hsa : Qk (acc ++ [Q8 (Qo b ks[i] :: ks.drop (i + 1))]) = Qk acc + (Q8 (Qo b ks[i] :: ks.drop (i + 1))).size := by rw [M5]; rfl
  have sv : Qs H.length 6 (.var zX :: G) (.ptr G.length 0 0) (Qd ks[i]) = some (.tup [],.var (Qd ks[i]).cells :: G) := by
   have := Y6 (H := H) (G := .var zX :: G) (t := G.length) (by omega) (cs := zX) rfl (ZR _ _) (x := Qd ks[i]) (by simp) (by simp)
   rw [this]; simp [Qn]
  have lv : ∀ G',Qh G' G.length = some (.var (Qd ks[i]).cells) → Qc true 6 G' (.ptr G.length 0 0) = some (Qd ks[i]) := fun G' e => by
   rw [Qj,e,Qcz,List.drop_zero,Zx]
  have l1 := lv _ (ZR (.var (Qd ks[i]).cells) G)
  have l2 := lv _ hv2
  have l4 := lv _ hv4
  have fp : Qq (.ptr H.length 0 0) 5 = some (.ptr H.length 0 5) := by rw [Qet]
  have lf : Qc false 1 (.var (Qd ks[i]).cells :: G) (.ptr H.length 0 5) = some (.vs (Qw ks)) := by
   rw [Qj,hr0,Qcz,QE]; rfl
  have ov : QD G (.agg zX) = some (.ptr G.length 0 0,.var zX :: G) := R9 rfl
  cases hn : Zs ks[i] with
  | true =>
   rw [hn] at nl hsz
   rw [if_pos rfl] at hsz ⊢
   have k2 := ih (i + 1) (by omega) (by omega) _ v' G4 q2 hU4 (g3 hn) (by simp; omega) hoa' (by omega)
   rw [List.append_assoc,List.cons_append,List.nil_append] at k2
   rw [Xm]
   generalize Q8 (Qo b ks[i] :: ks.drop (i + 1)) = cx at ca q1 k2 ⊢
   generalize Qo b ks[i] = dx at D c3 ca
   simp only [Qah,Qag,Qab,Qbd,Qbc,Qhd,Qgm,Qfu,Qdx,Qef,Qfh,Qhi,Qbg,Qbf,Qbo,Qfe,decide_true,Bool.not_true,List.length_cons,Nat.le_refl,h',i1,Zx,ov,sv,fp,lf,w1,sl,c1,l1,l2,D,c3,ca,q1,l4,nl,k2]
   done
  | false =>
   rw [hn] at nl hsz
   rw [if_neg (by simp)] at hsz ⊢
   have f := fin _ v' G4 q2 hU4 hoa' (by omega)
   rw [Xm]
   generalize Q8 (Qo b ks[i] :: ks.drop (i + 1)) = cx at ca q1 f ⊢
   generalize Qo b ks[i] = dx at D c3 ca
   simp only [Qah,Qag,Qab,Qbd,Qhd,Qgm,Qfu,Qdx,Qef,Qfh,Qhi,Qbg,Qbf,Qbo,Qfe,decide_true,Bool.not_false,List.length_cons,Nat.le_refl,h',i1,Zx,ov,sv,fp,lf,w1,sl,c1,l1,l2,D,c3,ca,q1,l4,nl,f]
   done
theorem Bo (b : Int) (l : List X) : (Zf b l).length = l.length := by rw [Ai,List.length_map]
theorem QeX {b : Int} {ks : List X} {i : Nat} (h : i < ks.length) : Zf b (ks.take (i + 1)) = Zf b (ks.take i) ++ [Qo b ks[i]] := by
 rw [Ai,Ai,List.take_succ_eq_append_getElem h,List.map_append]
 rfl
theorem DJ {b : Int} : ∀ {ks : List X},GdA b ks → ∀ x ∈ ks,Gd b x
 | [],_,x,hx => by simp at hx
 | y :: l,h,x,hx => by
  rw [GdA] at h
  rcases List.mem_cons.1 hx with rfl | hx
  ·exact h.1
  ·exact DJ h.2 x hx
theorem Qlh {b i ver : Nat} {G : Qa} {L : List X} {m : Nat} (hg : Qh G i = some (Q9 ver L (Q7 (m + 1) zX))) (hb : b ≤ i) (y : X) :
  Qs b 6 G (.ptr i ver (L.length * 6)) (Qd y) = some (.tup [],Qn G i (Q9 ver (L ++ [y]) (Q7 m zX))) := by
 have h3 := (Mv m).2.2
 have hcl := Z8 L
 have e1 : splice (Qy L ++ Q7 (m + 1) zX) (L.length * 6) (Qd y).cells = Qy (L ++ [y]) ++ Q7 m zX := by
  unfold splice
  rw [List.take_append_of_le_length (by omega),List.take_of_length_le (by omega),Qbg,List.drop_append,List.drop_of_length_le (by omega),List.nil_append,B5,hcl,
   show L.length * 6 + 6 - L.length * 6 = 6 by omega]
  have : Qy [y] = (Qd y).cells := by show (Qd y).cells ++ [] = _; rw [List.append_nil]
  rw [this,Q7]
  rfl
 have hle : L.length * 6 + 6 ≤ (Qy L ++ Q7 (m + 1) zX).length := by
  rw [List.length_append,(Mv (m + 1)).2.2,hcl]; omega
 have hfit : fits b i 0 = true := by simp [fits,hb]
 rw [Rq]
 simp only [Mb,Rx,Qbg,Qbm,Qbj,hfit,and_self,if_true,hg,Q9,hle,e1,Option.map_some]
theorem Qju {k : Int} {s : S4} {ks : List X} {b : Int} {H : Qa} (hok : ∀ x ∈ ks,x.ok) (hs : Qk (Zf b ks) ≤ 600000000000) (hn : ks.length ≤ 1000000000000)
  (hd : ∀ x ∈ ks,∀ G,E Y5 [Qd x,.int .i64 b] G = some (.ret (Qd (Qo b x)),G)) : ∀ (m i : Nat),ks.length - i = m → i ≤ ks.length → ∀ (G : Qa),
   Up (.var zX :: .var (Qd (.mk k s ks)).cells :: H) G → Qh G (H.length + 2) = some (Q9 0 (Zf b (ks.take i)) (Q7 m zX)) →
  P8 H.length (.int .i64 b) (.ptr (H.length + 1) 0 0) (.rs (H.length + 2) 0 6 0 ks.length) (.vs (Qw ks)) (.int .i64 (ks.length : Int)) (.int .i64 (i : Int)) G = some (.ret (Qd (Ze (Zf b ks))),H) := by
 have hU0 : Up H (.var zX :: .var (Qd (.mk k s ks)).cells :: H) := ((Up.refl H).cons _).cons _
 have hz : ∀ G,Up (.var zX :: .var (Qd (.mk k s ks)).cells :: H) G → Qh G (H.length + 1) = some (.var zX) := fun G hU => by
  rw [hU.get (by simp)]
  exact ZR (.var zX) (.var (Qd (.mk k s ks)).cells :: H)
 intro m
 induction m with
 | zero =>
  intro i hm hi G hU hg
  have h' : ¬ (i : Int) < (ks.length : Int) := by omega
  rw [List.take_of_length_le (by omega)] at hg
  have e1 := XL (H := G) (v := .rs (H.length + 2) 0 6 0 ks.length) (l := Zf b ks) (by
   have := Sl.rs (H.length + 2) 0 (Zf b ks) (Q7 0 zX) hg
   rw [Bo] at this
   exact this) (by omega) (Fq b hok)
  obtain ⟨G',s1,s2,s3⟩ := GV (hU0.trans hU) (t := H.length + 1) (by omega) (cs := zX) rfl (hz G hU) (Ze (Zf b ks))
  rw [QeZ]
  simp only [Qah,Qag,Qab,Qbc,Qdx,Qef,Qan,Qgo,Qgn,Qgs,Qgy,Qfv,decide_false,Bool.and_true,h',e1,s1,s2,s3]
 | succ m ih =>
  intro i hm hi G hU hg
  have h : i < ks.length := by omega
  have h' : (i : Int) < (ks.length : Int) := by omega
  have w1 : IntKind.i64.wrap ((i : Int) + 1) = ((i + 1 : Nat) : Int) := by rw [wrap_i64 (by omega) (by omega)]; omega
  have D := fun G => hd ks[i] (List.getElem_mem h) G
  have i1 := Y8 h .i64
  have i2 : Qx 6 (.rs (H.length + 2) 0 6 0 ks.length) (.int .i64 (i : Int)) = some (.ptr (H.length + 2) 0 ((0 + i) * 6)) := V5 h
  rw [Nat.zero_add] at i2
  have hHG : H.length + 2 < G.length := Q4 hg
  have hlen : (Zf b (ks.take i)).length = i := by rw [Bo,List.length_take]; omega
  have hg1 : Qh (.var (Qd ks[i]).cells :: G) (H.length + 2) = some (Q9 0 (Zf b (ks.take i)) (Q7 (m + 1) zX)) := by rw [JJ _ hHG]; exact hg
  have pr := Qlh (b := H.length) hg1 (by omega) (Qo b ks[i])
  rw [hlen,← QeX h] at pr
  have hU1 : Up (.var zX :: .var (Qd (.mk k s ks)).cells :: H) (Qn (.var (Qd ks[i]).cells :: G) (H.length + 2) (Q9 0 (Zf b (ks.take (i + 1))) (Q7 m zX))) := (hU.cons _).set (by simp) _
  have k2 := ih (i + 1) (by omega) (by omega) _ hU1 (by rw [Yf _ (by simp; omega)])
  have sv : Qs H.length 6 (.var zX :: G) (.ptr G.length 0 0) (Qd ks[i]) = some (.tup [],.var (Qd ks[i]).cells :: G) := by
   have := Y6 (H := H) (G := .var zX :: G) (t := G.length) (by omega) (cs := zX) rfl (ZR _ _) (x := Qd ks[i]) (by simp) (by simp)
   rw [this]; simp [Qn]
  have l1 : Qc true 6 (.var (Qd ks[i]).cells :: G) (.ptr G.length 0 0) = some (Qd ks[i]) := by
   rw [Qj,ZR,Qcz,List.drop_zero,Zx]
  have ov : QD G (.agg zX) = some (.ptr G.length 0 0,.var zX :: G) := R9 rfl
  generalize Qn (.var (Qd ks[i]).cells :: G) (H.length + 2) (Q9 0 (Zf b (ks.take (i + 1))) (Q7 m zX)) = G5 at pr k2
  rw [QeZ]
  simp only [Qah,Qag,Qab,Qbd,Qdx,Qef,Qfh,Qhi,Qbg,Qbf,Qbo,decide_true,Nat.le_refl,h',i1,Zx,ov,sv,l1,D,i2,pr,w1,k2]
theorem Qjz {s : S4} {ks : List X} {b : Int} (hok : ∀ x ∈ ks,x.ok) (hs : Qk ks ≤ 1000000000000) (hg : GdW b ks) (hz : Qk (Zu b ks) ≤ 600000000000)
  (hd : ∀ x ∈ ks,Gd b x → ∀ G,E Y5 [Qd x,.int .i64 b] G = some (.ret (Qd (Qo b x)),G)) (H : Qa) : E EC [Qd (.mk 3 s ks),.int .i64 b] H = some (.ret (Qd (Ze (Zu b ks))),H) := by
 have l := Qm1 (k := 3) (s := s) (H := H) hok hs hd ks.length 0 rfl (Nat.zero_le _) [] .nils (.var zX :: .var (Qd (.mk 3 s ks)).cells :: H) .nils (Up.refl _) hg (by simp) (by simp) (by simpa [Qk] using hz)
 simp only [List.nil_append,List.drop_zero,Qam] at l
 rw [QnY,QpK]
 rw [QE] at l ⊢
 simp only [Qan] at l
 simp only [Qah,Qag,Qet,Qfc,Qcz,Qhj,Qan,Qgo,Qgn,Qgs,Qgy,Qhc,Qck,Qcj,Qfv,Qbp,List.drop_zero,List.drop_succ_cons,List.length_cons,Nat.zero_add,Bool.and_true,Qj,Nat.lt_add_one,l]
theorem Qjs {s : S4} {ks : List X} {b : Int} (hok : ∀ x ∈ ks,x.ok) (hs : Qk (Zf b ks) ≤ 600000000000) (hn : ks.length ≤ 1000000000000)
  (hd : ∀ x ∈ ks,∀ G,E Y5 [Qd x,.int .i64 b] G = some (.ret (Qd (Qo b x)),G)) (H : Qa) : E EW [Qd (.mk 4 s ks),.int .i64 b] H = some (.ret (Qd (Ze (Zf b ks))),H) := by
 have l := Qju (k := 4) (s := s) (H := H) hok hs hn hd ks.length 0 rfl (Nat.zero_le _) (.row 0 6 true (Q7 ks.length zX) :: .var zX :: .var (Qd (.mk 4 s ks)).cells :: H) ((Up.refl _).cons _) (by
  have := ZR (.row 0 6 true (Q7 ks.length zX)) (.var zX :: .var (Qd (.mk 4 s ks)).cells :: H)
  exact this)
 have mk : ∀ G : Qa,R5 6 true 64 zX (.int .i64 (ks.length : Int)) (.int .i64 (ks.length : Int)) G = some (.rs G.length 0 6 0 ks.length,.row 0 6 true (Q7 ks.length zX) :: G) := fun G =>
  Qoo (by simp [Yj]; omega) (by omega) rfl (by decide) rfl
 have lt : H.length < H.length + 1 + 1 := by omega
 simp only [Qam] at l
 rw [Qp3,Qil]
 rw [QE] at l ⊢
 simp only [Qan] at l
 simp only [Qah,Qag,Qet,Qfc,Qcz,Qhj,Qan,Qgo,Qgn,Qgs,Qgy,Qhc,Qck,Qcj,Qfv,Qbp,List.drop_zero,List.drop_succ_cons,List.length_cons,Nat.zero_add,Bool.and_true,Qj,Nat.lt_add_one,mk,lt,l]
theorem UB : ∀ (n : Nat) (x : X),x.size ≤ n → n ≤ 600000000000 → x.ok → ∀ b,Gd b x → ∀ H,E Y5 [Qd x,.int .i64 b] H = some (.ret (Qd (Qo b x)),H)
 | 0,x,h,_,_,_,_,_ => by have := Yl x; omega
 | n + 1,.mk k s ks,h,hn,hok,b,hgd,H => by
  have hsz : Qk ks ≤ n := by simp only [X.size] at h; omega
  have hll := Yq ks
  have hko := X.ok_kids hok
  have hd : ∀ x ∈ ks,Gd b x → ∀ G,E Y5 [Qd x,.int .i64 b] G = some (.ret (Qd (Qo b x)),G) := fun x hx hg G => UB n x (Nat.le_trans (Yv hx) hsz) (by omega) (hko x hx) b hg G
  have elim : LIM = 600000000000 := rfl
  have n23 : ¬ (3 : Int) = 2 := by decide
  have n42 : ¬ (4 : Int) = 2 := by decide
  have n52 : ¬ (5 : Int) = 2 := by decide
  have n53 : ¬ (5 : Int) = 3 := by decide
  have n54 : ¬ (5 : Int) = 4 := by decide
  have b0 := bXk 0
  have b1 := bXk 1
  have e0 : Qd x0 = .agg [.int .i64 0,.int .u64 0,.int .u64 0,.int .u64 0,.int .u64 0,.vs []] := rfl
  have e1 : Qd x1 = .agg [.int .i64 1,.int .u64 0,.int .u64 0,.int .u64 0,.int .u64 0,.vs []] := rfl
  rw [QlJ,Qos]
  by_cases h2 : k = 2
  ·subst h2
   have hh := fun G => Qix hok.1.1 b G
   rw [EY]
   cases hb : s.hasB b with
   | true =>
    rw [hb] at hh
    rw [if_pos rfl,e1,QE]
    simp only [Qah,Qag,Qab,Qbd,Qci,Qfm,Qfr,Qet,Qeb,Qcx,Qcz,Qhj,Qan,Qgo,Qgn,Qgs,Qgy,Qhc,Qdi,Qdo,Qdt,Qde,Qdd,Qdc,Qhh,Qhf,Qcr,Qck,Qcj,Qcn,Qfv,Qhi,Qgb,Qga,Qbe,Qbx,Qca,Qbt,Qdb,Qda,decide_true,if_true,List.drop_zero,List.drop_succ_cons,List.length_cons,List.length_nil,Nat.add_zero,Nat.zero_add,Option.bind_some,Option.map_some,Bool.and_true,List.append_nil,Nat.reduceAdd,Qj,Qz,List.drop_nil,Qu,Nat.le_refl,Nat.lt_add_one,Nat.zero_le,or_true,true_or,and_true,and_self,Nat.max_self,List.take_zero,List.take_succ_cons,hh,b1]
   | false =>
    rw [hb] at hh
    have n23' : ¬ (2 : Int) = 3 := by decide
    have n24 : ¬ (2 : Int) = 4 := by decide
    have n25 : ¬ (2 : Int) = 5 := by decide
    rw [if_neg (by simp),e0,QE]
    simp only [Qah,Qag,Qab,Qbc,Qci,Qcf,Qfm,Qfr,Qfq,Qet,Qeb,Qcx,Qcz,Qhj,Qan,Qgo,Qgn,Qgs,Qgy,Qhc,Qdi,Qdo,Qdt,Qde,Qdd,Qdc,Qhh,Qhf,Qcr,Qck,Qcj,Qcn,Qfv,Qhi,Qgb,Qga,Qbe,Qbx,Qca,Qbt,Qdb,Qda,decide_true,decide_false,if_true,List.drop_zero,List.drop_succ_cons,List.length_cons,List.length_nil,Nat.add_zero,Nat.zero_add,Option.bind_some,Option.map_some,Bool.and_true,List.append_nil,Nat.reduceAdd,Qj,Qz,List.drop_nil,Qu,Nat.le_refl,Nat.lt_add_one,Nat.zero_le,or_true,true_or,and_true,and_self,Nat.max_self,List.take_zero,List.take_succ_cons,hh,b0,n23',n24,n25]
  ·by_cases h3 : k = 3
   ·subst h3
    rw [Gd,if_pos rfl] at hgd
    have ct := fun G => Qjz (s := s) (ks := ks) hko (by omega) hgd.2 (by omega) hd G
    have er := fun H' => Qbl H.length (Ze (Zu b ks)) H'
    rw [Qrh]
    obtain ⟨k',s',ks',e⟩ : ∃ k' s' ks',Ze (Zu b ks) = .mk k' s' ks' := by cases Ze (Zu b ks) with | mk k s ks => exact ⟨k,s,ks,rfl⟩
    simp only [e,QE] at er ct ⊢
    simp only [Qah,Qag,Qab,Qbd,Qbc,Qcf,Qfm,Qfq,Qet,Qeb,Qcx,Qcz,Qhj,Qan,Qgo,Qgn,Qgs,Qgy,Qhc,Qdi,Qdt,Qde,Qdd,Qdc,Qhh,Qhf,Qcr,Qck,Qcj,Qcn,Qfv,Qhi,Qem,decide_true,decide_false,if_true,List.drop_zero,List.drop_succ_cons,List.length_cons,List.length_nil,Nat.add_zero,Nat.zero_add,Bool.and_true,List.append_nil,Nat.reduceAdd,Qj,Qz,List.drop_nil,Qu,Nat.le_refl,Nat.lt_add_one,Nat.zero_le,or_true,true_or,and_true,and_self,Nat.max_self,List.take_zero,List.take_succ_cons,n23,ct,er]
    done
   ·by_cases h4 : k = 4
    ·subst h4
     rw [Gd,if_neg (by decide),if_pos rfl] at hgd
     have ct := fun G => Qjs (s := s) (ks := ks) hko (by omega) (by omega) (fun x hx G => hd x hx (DJ hgd.2 x hx) G) G
     have er := fun H' => Qbl H.length (Ze (Zf b ks)) H'
     rw [CY]
     obtain ⟨k',s',ks',e⟩ : ∃ k' s' ks',Ze (Zf b ks) = .mk k' s' ks' := by cases Ze (Zf b ks) with | mk k s ks => exact ⟨k,s,ks,rfl⟩
     simp only [e,QE] at er ct ⊢
     simp only [Qah,Qag,Qab,Qbd,Qbc,Qcf,Qfm,Qfq,Qet,Qeb,Qcx,Qcz,Qhj,Qan,Qgo,Qgn,Qgs,Qgy,Qhc,Qdi,Qdt,Qde,Qdd,Qdc,Qhh,Qhf,Qcr,Qck,Qcj,Qcn,Qfv,Qhi,Qem,decide_true,decide_false,if_true,List.drop_zero,List.drop_succ_cons,List.length_cons,List.length_nil,Nat.add_zero,Nat.zero_add,Bool.and_true,List.append_nil,Nat.reduceAdd,Qj,Qz,List.drop_nil,Qu,Nat.le_refl,Nat.lt_add_one,Nat.zero_le,or_true,true_or,and_true,and_self,Nat.max_self,List.take_zero,List.take_succ_cons,n42,n43,ct,er]
     done
    ·by_cases h5 : k = 5
     ·subst h5
      rw [Gd,if_neg (by decide),if_neg (by decide),if_pos rfl] at hgd
      match ks,hgd,hd,hll,hok,hsz with
      | [a],hgd,hd,hll,hok,hsz =>
       rw [GdS] at hgd
       obtain ⟨ga,gs⟩ := hgd rfl
       have D := fun G => hd a (by simp) ga G
       have i0 := Y8 (show 0 < [a].length by simp) .i64
       rw [Cs]
       have lt := fun z => QiB z (Qo b a) (.mk 5 s [a])
       have ca := fun G => XI (H := G) (Sl.vs [Qo b a,.mk 5 s [a]]) (by simp only [Qk]; omega)
       have er := fun H' => Qbl H.length (Q8 [Qo b a,.mk 5 s [a]]) H'
       obtain ⟨k',s',ks',e⟩ : ∃ k' s' ks',Q8 [Qo b a,.mk 5 s [a]] = .mk k' s' ks' := by cases Q8 [Qo b a,.mk 5 s [a]] with | mk k s ks => exact ⟨k,s,ks,rfl⟩
       generalize Qo b a = da at D lt ca e er ⊢
       simp only [e,Qw,QE] at ca er lt ⊢
       simp only [Qam,List.getElem_cons_zero,Qw] at i0
       simp only [Qw,Qah,Qag,Qab,Qbd,Qbc,Qci,Qcf,Qhd,Qgm,Qfm,Qfr,Qfq,Qet,Qfc,Qeb,Qcx,Qcz,Qfh,Qhj,Qan,Qgo,Qgn,Qgs,Qgy,Qhc,Qdi,Qdt,Qde,Qdd,Qdc,Qhh,Qhf,Qam,Qcr,Qck,Qcj,Qcn,Qfv,Qhi,Qem,Qbg,Qbf,Qbo,decide_true,decide_false,if_true,List.drop_zero,List.drop_succ_cons,List.length_cons,List.length_nil,Nat.add_zero,Nat.zero_add,Bool.and_true,List.append_nil,Nat.reduceAdd,Qj,Qz,List.drop_nil,Qu,Nat.le_refl,Nat.lt_add_one,Nat.zero_le,or_true,true_or,and_true,and_self,Nat.max_self,List.take_zero,List.take_succ_cons,n52,n53,n54,i0,Zx,D,lt,ca,er]
       done
      | [],hgd,hd,hll,hok,hsz =>
       have : Qo b (.mk 5 s []) = x0 := by rw [Qo,if_neg (by decide),if_neg (by decide),if_neg (by decide),if_pos rfl,JU]
       have n01 : ¬ (0 : Int) = 1 := by decide
       rw [this,e0,QE]
       simp only [Qw,Qah,Qag,Qab,Qbc,Qci,Qcf,Qfm,Qfr,Qfq,Qet,Qfc,Qeb,Qcx,Qcz,Qhj,Qan,Qgo,Qgn,Qgs,Qgy,Qhc,Qdi,Qdo,Qdt,Qde,Qdd,Qdc,Qhh,Qhf,Qam,Qcr,Qck,Qcj,Qcn,Qfv,Qhi,Qgb,Qga,Qbe,Qbx,Qca,Qbt,Qdb,Qda,decide_true,decide_false,if_true,List.drop_zero,List.drop_succ_cons,List.length_cons,List.length_nil,Nat.add_zero,Nat.zero_add,Option.bind_some,Option.map_some,Bool.and_true,List.append_nil,Nat.reduceAdd,Qj,Qz,List.drop_nil,Qu,Nat.le_refl,Nat.lt_add_one,Nat.zero_le,or_true,true_or,and_true,and_self,Nat.max_self,List.take_zero,List.take_succ_cons,n52,n53,n54,n01,b0]
      | a :: c :: l,hgd,hd,hll,hok,hsz =>
       have : Qo b (.mk 5 s (a :: c :: l)) = x0 := by rw [Qo,if_neg (by decide),if_neg (by decide),if_neg (by decide),if_pos rfl,JU,if_neg (by simp)]
       have nl : ¬ ((a :: c :: l).length : Int) = 1 := by simp only [List.length_cons]; omega
       have ll := Rh (a :: c :: l)
       rw [this,e0,QE]
       generalize a :: c :: l = L at nl ll
       simp only [Qah,Qag,Qab,Qbc,Qci,Qcf,Qfm,Qfr,Qfq,Qet,Qeb,Qcx,Qcz,Qhj,Qan,Qgo,Qgn,Qgs,Qgy,Qhc,Qdi,Qdo,Qdt,Qde,Qdd,Qdc,Qhh,Qhf,Qcr,Qck,Qcj,Qcn,Qfv,Qhi,Qgb,Qga,Qbe,Qbx,Qca,Qbt,Qdb,Qda,decide_true,decide_false,if_true,List.drop_zero,List.drop_succ_cons,List.length_cons,List.length_nil,Nat.add_zero,Nat.zero_add,Option.bind_some,Option.map_some,Bool.and_true,List.append_nil,Nat.reduceAdd,Qj,Qz,List.drop_nil,Qu,Nat.le_refl,Nat.lt_add_one,Nat.zero_le,or_true,true_or,and_true,and_self,Nat.max_self,List.take_zero,List.take_succ_cons,n52,n53,n54,ll,nl,b0]
     ·have : Qo b (.mk k s ks) = x0 := by rw [Qo,if_neg h2,if_neg h3,if_neg h4,if_neg h5]
      rw [this,e0,QE]
      simp only [Qah,Qag,Qab,Qbc,Qcf,Qfm,Qfq,Qet,Qeb,Qcx,Qcz,Qhj,Qan,Qgo,Qgn,Qgs,Qgy,Qhc,Qdi,Qdo,Qdt,Qde,Qdd,Qdc,Qhh,Qhf,Qcr,Qck,Qcj,Qcn,Qfv,Qhi,Qgb,Qga,Qbe,Qbx,Qca,Qbt,Qdb,Qda,decide_false,if_true,List.drop_zero,List.drop_succ_cons,List.length_cons,List.length_nil,Nat.add_zero,Nat.zero_add,Option.bind_some,Option.map_some,Bool.and_true,List.append_nil,Nat.reduceAdd,Qj,Qz,List.drop_nil,Qu,Nat.le_refl,Nat.lt_add_one,Nat.zero_le,or_true,true_or,and_true,and_self,Nat.max_self,List.take_zero,List.take_succ_cons,h2,h3,h4,h5,b0]
section
variable {k : Int} {s : S4} {ks : List X} {b : Int} {H : Qa}
end
end Go.Proofs.YtdnmpaielmfiiaaDoor
end
