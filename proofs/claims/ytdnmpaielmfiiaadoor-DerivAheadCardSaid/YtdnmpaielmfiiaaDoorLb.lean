/- Lb: a part of the proof that each law of this seat answers true at every input. No condition. -/
import Derived.Test.YtdnmpaielmfiiaaDoorLa
import Derived.Test.YtdnmpaielmfiiaaDoorMa
set_option linter.unusedVariables false
set_option linter.unusedSimpArgs false
set_option maxRecDepth 20000
section
namespace Go.Proofs.YtdnmpaielmfiiaaDoor
open Go Go.Ev Go.X7 Go.Srt
set_option maxRecDepth 20000
theorem Fx : ∀ {t : List UInt8} {x : X},Rt x → Fin t.length (mX x) → GdT x t
 | [],x,hr,h => by have := Fin.size hr h; exact this
 | c :: t,x,hr,h => by
  obtain ⟨a,b,d⟩ := Fin.deriv hr h (c.toNat : Int)
  exact ⟨Fin.size hr h,a,Fx b d⟩
theorem Fin.lessN {A : Me} {m : Nat} : ∀ {k : Nat},Fin (m + k) A → Fin m A
 | 0,h => h
 | k + 1,h => Fin.lessN (Fin.less h)
theorem Gx {x : X} (h : Fit 4 x) {k : Nat} (hk : k ≤ 6) : Fin k (mX x) := by
 have h6 := Fin.mono (m := 6) (N := 7) (by omega) (Qh4 h.me) Qln
 obtain ⟨j,hj⟩ : ∃ j,6 = k + j := ⟨6 - k,by omega⟩
 rw [hj] at h6
 exact Fin.lessN h6
theorem PK {H : Qa} {cs : List V} (hc : cs.length = 6) {y : X} : Qs H.length 6 (.var cs :: H) (.ptr H.length 0 0) (Qd y) = some (.tup [],.var (Qd y).cells :: H) := by
 have := Y6 (H := H) (G := .var cs :: H) (t := H.length) (Nat.le_refl _) (cs := cs) (by omega) (ZR _ _) (x := Qd y) (by simp [hc]) (by simp)
 rw [this]; simp [Qn,hc]
theorem DF {H : Qa} {x : X} : Qc true 6 (.var (Qd x).cells :: H) (.ptr H.length 0 0) = some (Qd x) := by
 rw [Qj,ZR,Qcz,List.drop_zero,Zx]
theorem TL (c : UInt8) : IntKind.i64.wrap (c.toNat : Int) = (c.toNat : Int) := by
 have := c.toNat_lt
 exact wrap_i64 (by omega) (by omega)
theorem QiR (H : Qa) : Q2 H 0 = [] := by simp [Q2]
theorem Qp9 {L M : List Int} (hL : ∀ n ∈ L,0 ≤ n ∧ n ≤ 255) (hl : L.length ≤ 9223372036854775807) (hM : ∀ n ∈ M,0 ≤ n ∧ n ≤ 255) (hm : M.length ≤ 9223372036854775807) : E Xu [.vs (L.map (V.int .u8)),.vs (M.map (V.int .u8))] [] = some (.ret (.bool true),[]) := by
 have aw := fun G => D7 G
 obtain ⟨x,hx,mk⟩ := Cu hL hl []
 obtain ⟨t,ht,le⟩ := Dm hM hm (k := 4) (by omega) [.var (Qd x).cells]
 have key : ∀ (m i : Nat),t.length - i = m → i ≤ t.length → ∀ y : X,Rt y → y.ok → Fin m (mX y) →
   Lv 0 (.bool true) (.ptr 0 0 0) (.str t) (.int .i64 (i : Int)) [.var (Qd y).cells] = some (.ret (.bool true),[]) := by
  intro m
  induction m with
  | zero =>
   intro i hm hi y _ _ _
   have h' : ¬ (i : Int) < (t.length : Int) := by omega
   rw [QgI]
   simp only [Qah,Qbc,Qfd,Qdx,Qef,Qcz,Qgc,Qcr,Qcj,Qhi,Qbg,Qbf,Qbo,decide_false,List.drop_zero,List.length_nil,Qj,Qz,Nat.le_refl,h']
   rfl
  | succ m ih =>
   intro i hm hi y hr hok hf
   have h : i < t.length := by omega
   have h' : (i : Int) < (t.length : Int) := by omega
   have w1 : IntKind.i64.wrap ((i : Int) + 1) = ((i + 1 : Nat) : Int) := by rw [wrap_i64 (by omega) (by omega)]; omega
   obtain ⟨g1,g2,g3⟩ := Fin.deriv hr hf (t[i].toNat : Int)
   have hs := Fin.size hr hf
   have D := fun G => UB 20000000000 y hs (Nat.le_refl _) hok _ g1 G
   have hs2 := Fin.size g2 g3
   have R := fun G => QeY 20000000000 (Qo (t[i].toNat : Int) y) hs2 (by omega) (Kc _ hok) G
   rw [show K9 (Qo (t[i].toNat : Int) y) = true from g2] at R
   have w2 := TL t[i]
   have ix := Xh h
   have ld := DF (H := []) (x := y)
   have ld2 := DF (H := []) (x := Qo (t[i].toNat : Int) y)
   have sv := PK (H := []) (cs := (Qd y).cells) (by simp) (y := Qo (t[i].toNat : Int) y)
   have k2 := ih (i + 1) (by omega) (by omega) _ g2 (Kc _ hok) g3
   simp only [List.length_nil] at ld ld2 sv
   rw [QgI]
   simp only [Qah,Qag,Qab,Qbd,Qbc,Qfu,Qey,Qfd,Qdx,Qef,Qgc,Qcr,decide_true,Bool.not_true,List.length_nil,Nat.le_refl,h',ld,ix,w2,D,sv,ld2,R,w1,k2]
 have k0 := key t.length 0 rfl (Nat.zero_le _) x hx.rt hx.ok (Gx hx (by omega))
 simp only [Qam] at k0
 have le' : E VU [.vs (M.map (V.int .u8)),.int .i64 4] [.var (Qd x).cells] = some (.ret (.str t),[.var (Qd x).cells]) := le
 have s0 : Qs 0 6 [zB] (.ptr 0 0 0) (Qd x) = some (.tup [],[.var (Qd x).cells]) := PK (H := []) (cs := zX) (by simp) (y := x)
 rw [Qj5,Qqw]
 simp only [Qah,Qag,Qab,Qbc,Qfu,Qgc,Qan,Qgo,Qgn,Qgs,Qgy,Qfv,Bool.not_true,List.length_nil,Bool.and_true,aw,mk,s0,le',k0]
 done
theorem Qkt {L M : List Int} (hL : ∀ n ∈ L,0 ≤ n ∧ n ≤ 255) (hl : L.length ≤ 9223372036854775807) (hM : ∀ n ∈ M,0 ≤ n ∧ n ≤ 255) (hm : M.length ≤ 9223372036854775807) : E QcS [.vs (L.map (V.int .u8)),.vs (M.map (V.int .u8))] [] = some (.ret (.bool true),[]) := by
 have aw := fun G => D7 G
 obtain ⟨x,hx,mk⟩ := Cu hL hl []
 obtain ⟨t,ht,le⟩ := Dm hM hm (k := 5) (by omega) [.var (Qd x).cells]
 have key : ∀ (m i : Nat),t.length - i = m → i ≤ t.length → ∀ (y : X) (G : Qa),Rt y → y.ok → Fin m (mX y) → Qh G 0 = some (.var (Qd y).cells) →
   Gm 0 (.ptr 0 0 0) (.str t) (.int .i64 (i : Int)) G = some (.ret (.bool true),[]) := by
  intro m
  induction m with
  | zero =>
   intro i hm hi y G _ _ _ _
   have h' : ¬ (i : Int) < (t.length : Int) := by omega
   rw [QgU]
   simp only [Qah,Qag,Qab,Qbc,Qfm,Qfd,Qdx,Qef,Qgc,Qan,Qgo,Qgn,Qgs,Qgy,Qhh,Qhf,Qck,Qco,Qcj,Qcn,Qfv,decide_false,List.length_cons,List.length_nil,Nat.zero_add,Bool.and_true,Nat.reduceAdd,Qj,Qz,Nat.le_refl,Nat.lt_add_one,Nat.zero_le,true_or,and_true,and_self,h',aw,QiR]
  | succ m ih =>
   intro i hm hi y G hr hok hf hG
   have h : i < t.length := by omega
   have h' : (i : Int) < (t.length : Int) := by omega
   have w1 : IntKind.i64.wrap ((i : Int) + 1) = ((i + 1 : Nat) : Int) := by rw [wrap_i64 (by omega) (by omega)]; omega
   obtain ⟨g1,g2,g3⟩ := Fin.deriv hr hf (t[i].toNat : Int)
   have hs := Fin.size hr hf
   have D := fun G => UB 20000000000 y hs (Nat.le_refl _) hok _ g1 G
   have D2 := fun G => QdZ 20000000000 y hs (Nat.le_refl _) hok _ g1 G
   have hs2 := Fin.size g2 g3
   have sm := fun G => BR 20000000000 (Qo (t[i].toNat : Int) y) (Qo (t[i].toNat : Int) y) hs2 (by decide) G
   rw [Rl] at sm
   have nl := fun G => UC 20000000000 (Qo (t[i].toNat : Int) y) hs2 (by omega) G
   have nr := fun G => Dh 20000000000 (Qo (t[i].toNat : Int) y) hs2 (by omega) G
   have w2 := TL t[i]
   have ix := Xh h
   have okd := Kc (t[i].toNat : Int) hok
   have k2 := fun G => ih (i + 1) (by omega) (by omega) _ G g2 (Kc _ hok) g3
   generalize Qo (t[i].toNat : Int) y = z at D D2 sm nl nr k2 okd
   have hi0 := Q4 hG
   have hz : ∀ (G : Qa) (n : Nat) (a : X),Qh G n = some (.var (Qd a).cells) → Qc true 6 G (.ptr n 0 0) = some (Qd a) := fun G n a e => by rw [Qj,e,Qcz,List.drop_zero,Zx]
   have hst : ∀ (G : Qa) (n : Nat) (cs : List V) (a : X),cs.length = 6 → Qh G n = some (.var cs) → Qs 0 6 G (.ptr n 0 0) (Qd a) = some (.tup [],Qn G n (.var (Qd a).cells)) := fun G n cs a hc e => by
    have := Y6 (H := []) (G := G) (t := n) (by simp) (cs := cs) (by omega) e (x := Qd a) (by simp [hc]) (by simp)
    rw [show ([] : Qa).length = 0 from rfl] at this
    rw [this]
   obtain ⟨n,hn⟩ : ∃ n,G.length = n := ⟨_,rfl⟩
   have l0 := hz G 0 y hG
   have l1 : Qc true 6 (zB :: G) (.ptr 0 0 0) = some (Qd y) := hz _ 0 y (by rw [Qck hi0]; exact hG)
   have l2 : Qc true 6 (zB :: zB :: G) (.ptr 0 0 0) = some (Qd y) := hz _ 0 y (by rw [Qck (by simp),Qck hi0]; exact hG)
   have s1 := hst (zB :: zB :: G) n zX z (by simp) (by rw [Qck (by simp [← hn]),← hn,ZR])
   rw [Qco (by simp [← hn]),show Qn (zB :: G) n (.var (Qd z).cells) = .var (Qd z).cells :: G by rw [← hn]; simp [Qn]] at s1
   have s2 := hst (zB :: .var (Qd z).cells :: G) (n + 1) zX z (by simp) (by subst hn; exact ZR zB (.var (Qd z).cells :: G))
   rw [show Qn (zB :: .var (Qd z).cells :: G) (n + 1) (.var (Qd z).cells) = .var (Qd z).cells :: .var (Qd z).cells :: G by rw [← hn]; simp [Qn]] at s2
   have l3 : Qc true 6 (.var (Qd z).cells :: .var (Qd z).cells :: G) (.ptr n 0 0) = some (Qd z) := hz _ n z (by rw [Qck (by simp [← hn]),← hn,ZR])
   have l4 : Qc true 6 (.var (Qd z).cells :: .var (Qd z).cells :: G) (.ptr (n + 1) 0 0) = some (Qd z) := hz _ (n + 1) z (by subst hn; exact ZR (.var (Qd z).cells) (.var (Qd z).cells :: G))
   have s3 := hst (.var (Qd z).cells :: .var (Qd z).cells :: G) 0 (Qd y).cells z (by simp) (by rw [Qck (by simp),Qck hi0]; exact hG)
   rw [Qco (by simp),Qco hi0] at s3
   have k3 := k2 (.var (Qd z).cells :: .var (Qd z).cells :: Qn G 0 (.var (Qd z).cells)) (by rw [Qck (by simp),Qck (by simpa using hi0),Qcl hi0])
   rw [QgU]
   simp only [Qah,Qag,Qab,Qbd,Qbc,Qci,Qhd,Qgm,Qfq,Qfu,Qey,Qfd,Qdx,Qef,Qea,Qgc,Qan,Qgo,Qgn,Qgs,Qgy,Qcr,Qfv,decide_true,Bool.not_true,List.length_cons,Bool.and_true,beq_self_eq_true,Qu,Nat.zero_le,h',l0,ix,w2,D,D2,hn,l1,l2,s1,s2,l3,l4,s3,sm,nl,nr,w1,k3]
   done
 have k0 := key t.length 0 rfl (Nat.zero_le _) x [.var (Qd x).cells] hx.rt hx.ok (Gx hx (by omega)) rfl
 simp only [Qam] at k0
 have le' : E VU [.vs (M.map (V.int .u8)),.int .i64 5] [.var (Qd x).cells] = some (.ret (.str t),[.var (Qd x).cells]) := le
 have s0 : Qs 0 6 [zB] (.ptr 0 0 0) (Qd x) = some (.tup [],[.var (Qd x).cells]) := PK (H := []) (cs := zX) (by simp) (y := x)
 rw [Qla,Qlv]
 simp only [Qag,Qab,Qan,Qgo,Qgn,Qgs,Qgy,Qfv,List.length_nil,Bool.and_true,mk,s0,le',k0]
 done
end Go.Proofs.YtdnmpaielmfiiaaDoor
end
