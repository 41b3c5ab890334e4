/- Lj: a part of the proof that each law of this seat answers true at every input. No condition. -/
import Derived.Test.YtdnmpaielmfiiaaDoorLd
import Derived.Test.YtdnmpaielmfiiaaDoorFnJ
set_option linter.unusedVariables false
set_option linter.unusedSimpArgs false
set_option maxRecDepth 20000
section
namespace Go.Proofs.YtdnmpaielmfiiaaDoor
open Go Go.Ev Go.X7 Go.Srt
set_option maxRecDepth 20000
theorem QsV {m N : Nat} {A B : Me} (hm : m ≤ 5) (hN : 5 ≤ N) (h : Me.le N A B) (hf : Fin 5 B) : Fin m A := by
 have h5 := Fin.mono (m := 5) (N := N) hN h hf
 obtain ⟨j,hj⟩ : ∃ j,5 = m + j := ⟨5 - m,by omega⟩
 rw [hj] at h5
 exact Fin.lessN h5
theorem QtE {L K M : List Int} (hL : ∀ n ∈ L,0 ≤ n ∧ n ≤ 255) (hl : L.length ≤ 9223372036854775807) (hK : ∀ n ∈ K,0 ≤ n ∧ n ≤ 255) (hk : K.length ≤ 9223372036854775807) (hM : ∀ n ∈ M,0 ≤ n ∧ n ≤ 255) (hm : M.length ≤ 9223372036854775807) : E QsH [.vs (L.map (V.int .u8)),.vs (K.map (V.int .u8)),.vs (M.map (V.int .u8))] [] = some (.ret (.bool true),[]) := by
 have aw := fun G => D7 G
 obtain ⟨x,hx,mk1⟩ := Cu hL hl []
 obtain ⟨y,hy,mk2⟩ := Cu hK hk []
 obtain ⟨t,ht,le⟩ := Dm hM hm (k := 5) (by omega) [.var (Qd y).cells,.var (Qd x).cells]
 have hxs := hx.size
 have hys := hy.size
 have hr : ∀ z ∈ [x,y],Rt z := fun z hz => by
  simp only [List.mem_cons,List.not_mem_nil,or_false] at hz
  rcases hz with rfl | rfl
  ·exact hx.rt
  ·exact hy.rt
 have hok : ∀ z ∈ [x,y],z.ok := fun z hz => by
  simp only [List.mem_cons,List.not_mem_nil,or_false] at hz
  rcases hz with rfl | rfl
  ·exact hx.ok
  ·exact hy.ok
 have fc : ∀ m,m ≤ 5 → Fin m (mX (Q8 [x,y])) := fun m h => by
  refine QsV (N := 7) h (by omega) ((CZ (by simp) hr 7).trans ?_) QtW
  show Me.le 7 ((mX x).cat ((mX y).cat Me.e)) _
  rw [Me.cat_e]
  exact Me.cat_le (Qh4 hx.me) (Qh4 hy.me)
 have fe : ∀ m,m ≤ 5 → Fin m (mX (Ze [x,y])) := fun m h => by
  refine QsV (N := 7) h (by omega) ((AL _ 7).trans ?_) QtV
  show Me.le 7 ((mX x).or ((mX y).or Me.zero)) _
  rw [Me.or_zero]
  exact Me.or_le (Qh4 hx.me) (Qh4 hy.me)
 have lgc : ∀ u,Lg (Q8 [x,y]) u ↔ ∃ a b,u = a ++ b ∧ Lg x a ∧ Lg y b := fun u => by
  rw [Qso,LgC]
  simp only [Qr2]
 have lge : ∀ u,Lg (Ze [x,y]) u ↔ Lg x u ∨ Lg y u := fun u => by
  rw [Qse fun z hz => ⟨hr z hz,hok z hz⟩]
  simp only [LgE,or_false]
 have mt : ∀ z,Rt z → z.ok → ∀ f : List UInt8 → Bool,(∀ u,f u = true ↔ Lg z u) → ∀ u : List UInt8,u.length ≤ 5 → (∀ m,m ≤ 5 → Fin m (mX z)) → ∀ G,E UO [Qd z,.str u] G = some (.ret (.bool (f u)),G) := fun z h1 h2 f hff u hu hf G => by
  have := R7 h2 (t := u) (by omega) (Fx h1 (hf _ hu)) G
  rw [this,Qst,Qsy ((Qsv u z h1 h2).trans (hff u).symm)]
 obtain ⟨f1,i1⟩ := QrU x
 obtain ⟨f2,i2⟩ := QrU y
 obtain ⟨f3,i3⟩ := QrU (Q8 [x,y])
 obtain ⟨f4,i4⟩ := QrU (Ze [x,y])
 have mx := mt x hx.rt hx.ok f1 i1
 have my := mt y hy.rt hy.ok f2 i2
 have fx : ∀ m,m ≤ 5 → Fin m (mX x) := fun m h => Gx hx (by omega)
 have fy : ∀ m,m ≤ 5 → Fin m (mX y) := fun m h => Gx hy (by omega)
 have l1 : Qc true 6 [.var (Qd y).cells,.var (Qd x).cells] (.ptr 0 0 0) = some (Qd x) := by
  rw [Qj]; show U0 true 6 0 0 (some (.var (Qd x).cells)) = _; rw [Qcz,List.drop_zero,Zx]
 have l2 : Qc true 6 [.var (Qd y).cells,.var (Qd x).cells] (.ptr 1 0 0) = some (Qd y) := by
  rw [Qj]; show U0 true 6 0 0 (some (.var (Qd y).cells)) = _; rw [Qcz,List.drop_zero,Zx]
 have key : ∀ (m i : Nat),t.length + 1 - i = m → i ≤ t.length + 1 → ∀ b : Bool,(b = true ↔ ∃ j,j < i ∧ f1 (t.take j) = true ∧ f2 (t.drop j) = true) →
   Qr9 0 (.bool true) (.ptr 0 0 0) (.ptr 1 0 0) (.str t) (.bool b) (.int .i64 (i : Int)) [.var (Qd y).cells,.var (Qd x).cells] = some (.ret (.bool true),[]) := by
  intro m
  induction m with
  | zero =>
   intro i hi0 hi b hb
   have h' : ¬ (i : Int) ≤ (t.length : Int) := by omega
   have a1 := mx t ht fx
   have a2 := my t ht fy
   have ca := fun G => Ni (H := G) (Sl.vs [x,y]) (by simp only [Qk]; omega)
   have ce := fun G => G9 (H := G) (Sl.vs [x,y]) (by simp only [Qk]; omega) hok
   have a3 := mt _ (Aq hr) (Mm hok) f3 i3 t ht fc
   have a4 := mt _ (CN hr) (C5 hok) f4 i4 t ht fe
   have l3 := fun z => QiB z x y
   have e3 : f3 t = b := Qsy (by
    rw [i3,lgc,hb]
    constructor
    ·rintro ⟨u,v,rfl,h1,h2⟩
     simp only [List.length_append] at hi hi0
     exact ⟨u.length,by omega,by rw [i1]; simpa using h1,by rw [i2]; simpa using h2⟩
    ·rintro ⟨j,_,h1,h2⟩
     exact ⟨_,_,(List.take_append_drop j t).symm,(i1 _).1 h1,(i2 _).1 h2⟩)
   have e4 : f4 t = (f1 t || f2 t) := Qsy (by
    rw [i4,lge,Bool.or_eq_true,i1,i2])
   rw [e3] at a3
   rw [e4] at a4
   generalize f1 t = b1 at a1 a4
   generalize f2 t = b2 at a2 a4
   rw [Qs1]
   cases b <;> cases b1 <;> cases b2 <;> simp only [Bool.or_true,Bool.or_false] at a4 <;> simp only [Qah,Qab,Qbc,Qci,Qcg,Qch,Qfm,Qfr,Qfq,Qfd,Qdx,Qee,Qdz,Qgc,Qcr,decide_false,List.length_cons,List.length_nil,Nat.zero_add,beq_self_eq_true,Qu,Nat.le_refl,h',l1,l2,a1,a2,l3,ca,a3,ce,a4] <;> rfl
  | succ m ih =>
   intro i hi0 hi b hb
   have h' : (i : Int) ≤ (t.length : Int) := by omega
   have w1 : IntKind.i64.wrap ((i : Int) + 1) = ((i + 1 : Nat) : Int) := by clear hb; rw [wrap_i64 (by omega) (by omega)]; omega
   have s1 := QbW (s := t) (k := .i64) (n := (i : Int)) (by omega) h'
   have s2 := Qt2 (s := t) (k := .i64) (n := (i : Int)) (by omega) h'
   simp only [Int.toNat_natCast] at s1 s2
   have a1 := mx (t.take i) (by simp; omega) fx
   have a2 := my (t.drop i) (by simp; omega) fy
   have k2 := ih (i + 1) (by clear hb; omega) (by clear hb; omega) (b || (f1 (t.take i) && f2 (t.drop i))) (by
    rw [Bool.or_eq_true,Bool.and_eq_true,hb]
    constructor
    ·rintro (⟨j,h1,h2⟩ | h)
     ·exact ⟨j,Nat.lt_succ_of_lt h1,h2⟩
     ·exact ⟨i,Nat.lt_succ_self i,h⟩
    ·rintro ⟨j,h1,h2⟩
     by_cases e : j = i
     ·subst e; exact .inr h2
     ·exact .inl ⟨j,Nat.lt_of_le_of_ne (Nat.le_of_lt_succ h1) e,h2⟩)
   clear hb
   generalize f1 (t.take i) = b1 at a1 k2
   generalize f2 (t.drop i) = b2 at a2 k2
   rw [Qs1]
   cases b <;> cases b1 <;> cases b2 <;> simp only [Bool.or_true,Bool.or_false,Bool.true_or,Bool.false_or,Bool.and_true,Bool.and_false,Bool.true_and,Bool.false_and] at k2 <;> simp only [Qah,Qab,Qbd,Qci,Qcg,Qcf,Qch,Qhd,Qgm,Qfm,Qfr,Qfq,Qfd,Qdx,Qee,decide_true,h',l1,l2,s1,s2,a1,a2,w1,k2]
 have k0 := key (t.length + 1) 0 rfl (Nat.zero_le _) false (by
  constructor
  ·intro h; cases h
  ·rintro ⟨j,h,_⟩; exact absurd h (by omega))
 simp only [Qam] at k0
 have le' : E VU [.vs (M.map (V.int .u8)),.int .i64 5] [.var (Qd y).cells,.var (Qd x).cells] = some (.ret (.str t),[.var (Qd y).cells,.var (Qd x).cells]) := le
 have s0 : Qs 0 6 (zB :: [zB]) (.ptr 0 0 0) (Qd x) = some (.tup [],zB :: [.var (Qd x).cells]) := by
  have := Y6 (H := []) (G := zB :: [zB]) (t := 0) (by simp) (cs := zX) (by simp) rfl (x := Qd x) (by simp) (by simp)
  rw [show ([] : Qa).length = 0 from rfl] at this
  rw [this]; rfl
 have s1 : Qs 0 6 (zB :: [.var (Qd x).cells]) (.ptr 1 0 0) (Qd y) = some (.tup [],[.var (Qd y).cells,.var (Qd x).cells]) := by
  have := Y6 (H := []) (G := zB :: [.var (Qd x).cells]) (t := 1) (by simp) (cs := zX) (by simp) rfl (x := Qd y) (by simp) (by simp)
  rw [show ([] : Qa).length = 0 from rfl] at this
  rw [this]; rfl
 rw [QtQ,QtL]
 simp only [Qah,Qag,Qab,Qbc,Qfu,Qgc,Qan,Qgo,Qgn,Qgs,Qgy,Qfv,Bool.not_true,List.length_cons,List.length_nil,Nat.zero_add,Bool.and_true,aw,mk1,mk2,s0,s1,le',k0]
 done
end Go.Proofs.YtdnmpaielmfiiaaDoor
end
