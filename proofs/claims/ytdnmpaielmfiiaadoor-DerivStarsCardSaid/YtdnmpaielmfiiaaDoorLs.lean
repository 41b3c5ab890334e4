/- Ls: a part of the proof that each law of this seat answers true at every input. No condition. -/
import Derived.Test.YtdnmpaielmfiiaaDoorLd
set_option linter.unusedVariables false
set_option linter.unusedSimpArgs false
set_option maxRecDepth 20000
section
namespace Go.Proofs.YtdnmpaielmfiiaaDoor
open Go Go.Ev Go.X7 Go.Srt
set_option maxRecDepth 20000
theorem Qun : Fin 6 C8.star := by decide +kernel
theorem Quo : Fin 6 Me.emp := by decide +kernel
theorem Quh {P : Bs → Prop} {u v : Bs} (h : StarL P u) (g : StarL P v) : StarL P (u ++ v) := by
 induction h with
 | nil => exact g
 | app hn hu _ ih => rw [List.append_assoc]; exact .app hn hu ih
theorem Quq : ∀ x : X,Rt x → Lg (Jh x) [] ∧ (∀ u,Lg x u → Lg (Jh x) u) ∧ ∀ u v,Lg (Jh x) u → Lg (Jh x) v → Lg (Jh x) (u ++ v)
 | .mk k s ks,hr => by
  rw [UH]
  split
  ·rename_i h
   refine ⟨(Qrx _ _ _).2 rfl,fun u hu => ?_,fun u v hu hv => ?_⟩
   ·rcases h with rfl | rfl
    ·exact ((Qrp (by decide) _ _ _).1 hu).elim
    ·exact (Qrx _ _ _).2 ((Qrx _ _ _).1 hu)
   ·rw [(Qrx _ _ _).1 hu,(Qrx _ _ _).1 hv]
    exact (Qrx _ _ _).2 rfl
  ·split
   ·rename_i h5
    subst h5
    obtain ⟨a,rfl,_⟩ := Nm hr
    refine ⟨(Qss _ _ _).2 .nil,fun u hu => hu,fun u v hu hv => (Qss _ _ _).2 (Quh ((Qss _ _ _).1 hu) ((Qss _ _ _).1 hv))⟩
   ·refine ⟨(Qss _ _ _).2 .nil,fun u hu => (Qss _ _ _).2 ?_,fun u v hu hv => (Qss _ _ _).2 (Quh ((Qss _ _ _).1 hu) ((Qss _ _ _).1 hv))⟩
    cases u with
    | nil => exact .nil
    | cons c u =>
     have := StarL.app (P := Lg (.mk k s ks)) (u := c :: u) (by simp) hu .nil
     rwa [List.append_nil] at this
theorem Qut : ∀ {x : X},Fit 4 x → Fin 6 (mX (Jh x))
 | .mk k s ks,h => by
  rw [UH]
  split
  ·exact Quo
  ·split
   ·exact Gx h (by omega)
   ·exact Fin.mono (m := 6) (N := 7) (by omega) (Me.star_le (Qh4 h.me)) Qun
theorem Quf {L M K : List Int} (hL : ∀ n ∈ L,0 ≤ n ∧ n ≤ 255) (hl : L.length ≤ 9223372036854775807) (hM : ∀ n ∈ M,0 ≤ n ∧ n ≤ 255) (hm : M.length ≤ 9223372036854775807) (hK : ∀ n ∈ K,0 ≤ n ∧ n ≤ 255) (hk : K.length ≤ 9223372036854775807) : Lt 0 (.vs (L.map (V.int .u8))) (.vs (M.map (V.int .u8))) (.vs (K.map (V.int .u8))) (.bool true) [] = some (.ret (.bool true),[]) := by
 obtain ⟨x,hx,mk1⟩ := Cu hL hl []
 have st := fun G => AB x G
 have hrs := QmQ hx.rt
 have hos := Qlk hx.ok
 have hfs := Qut hx
 obtain ⟨p1,p2,p3⟩ := Quq x hx.rt
 generalize Jh x = y at st hrs hos hfs p1 p2 p3
 obtain ⟨t,ht,le1⟩ := Dm hM hm (k := 3) (by omega) [.var (Qd y).cells,.var (Qd x).cells]
 obtain ⟨u,hu,le2⟩ := Dm hK hk (k := 3) (by omega) [.var (Qd y).cells,.var (Qd x).cells]
 have le1' : E VU [.vs (M.map (V.int .u8)),.int .i64 3] [.var (Qd y).cells,.var (Qd x).cells] = some (.ret (.str t),[.var (Qd y).cells,.var (Qd x).cells]) := le1
 have le2' : E VU [.vs (K.map (V.int .u8)),.int .i64 3] [.var (Qd y).cells,.var (Qd x).cells] = some (.ret (.str u),[.var (Qd y).cells,.var (Qd x).cells]) := le2
 have mt : ∀ z,Rt z → z.ok → ∀ f : List UInt8 → Bool,(∀ u,f u = true ↔ Lg z u) → ∀ u : List UInt8,u.length ≤ 6 → Fin 6 (mX z) → ∀ G,E UO [Qd z,.str u] G = some (.ret (.bool (f u)),G) := fun z h1 h2 f hff u hu hf G => by
  have hf' : Fin u.length (mX z) := by
   obtain ⟨j,hj⟩ : ∃ j,6 = u.length + j := ⟨6 - u.length,by omega⟩
   rw [hj] at hf
   exact Fin.lessN hf
  have := R7 h2 (t := u) (by omega) (Fx h1 hf') G
  rw [this,Qst,Qsy ((Qsv u z h1 h2).trans (hff u).symm)]
 obtain ⟨f,i1⟩ := QrU x
 obtain ⟨g,i2⟩ := QrU y
 have m1 := mt y hrs hos g i2 t (by omega) hfs
 have m2 := mt y hrs hos g i2 u (by omega) hfs
 have m3 := mt y hrs hos g i2 [] (by simp) hfs
 have m4 := mt x hx.rt hx.ok f i1 t (by omega) (Gx hx (by omega))
 have m5 := mt y hrs hos g i2 (t ++ u) (by simp; omega) hfs
 have ct : Qb .add 6 (.str t) (.str u) = some (.str (t ++ u)) := Z3 _ _ _ (by omega)
 rw [(i2 []).2 p1] at m3
 have q2 : f t = true → g t = true := fun h => (i2 _).2 (p2 _ ((i1 _).1 h))
 have q3 : g t = true → g u = true → g (t ++ u) = true := fun h h' => (i2 _).2 (p3 _ _ ((i2 _).1 h) ((i2 _).1 h'))
 have l0 : Qc true 6 [.var (Qd x).cells] (.ptr 0 0 0) = some (Qd x) := by
  rw [Qj]; show U0 true 6 0 0 (some (.var (Qd x).cells)) = _; rw [Qcz,List.drop_zero,Zx]
 have l1 : Qc true 6 [.var (Qd y).cells,.var (Qd x).cells] (.ptr 0 0 0) = some (Qd x) := by
  rw [Qj]; show U0 true 6 0 0 (some (.var (Qd x).cells)) = _; rw [Qcz,List.drop_zero,Zx]
 have l2 : Qc true 6 [.var (Qd y).cells,.var (Qd x).cells] (.ptr 1 0 0) = some (Qd y) := by
  rw [Qj]; show U0 true 6 0 0 (some (.var (Qd y).cells)) = _; rw [Qcz,List.drop_zero,Zx]
 have s0 : Qs 0 6 [zB] (.ptr 0 0 0) (Qd x) = some (.tup [],[.var (Qd x).cells]) := PK (H := []) (cs := zX) (by simp) (y := x)
 have s1 : Qs 0 6 (zB :: [.var (Qd x).cells]) (.ptr 1 0 0) (Qd y) = some (.tup [],[.var (Qd y).cells,.var (Qd x).cells]) := by
  have := Y6 (H := []) (G := zB :: [.var (Qd x).cells]) (t := 1) (by simp) (cs := zX) (by simp) rfl (x := Qd y) (by simp) (by simp)
  rw [show ([] : Qa).length = 0 from rfl] at this
  rw [this]; rfl
 generalize g (t ++ u) = b5 at m5 q3
 generalize g t = b1 at m1 q2 q3
 generalize g u = b2 at m2 q3
 generalize f t = b4 at m4 q2
 rw [Qum]
 cases b1 <;> cases b2 <;> cases b4 <;> cases b5 <;> first | exact absurd (q2 rfl) (by decide) | exact absurd (q3 rfl rfl) (by decide) | skip
 all_goals simp only [Qah,Qag,Qab,Qci,Qcg,Qhd,Qgm,Qfm,Qfr,Qfq,Qfu,Qgc,Qan,Qgo,Qgn,Qgs,Qgy,Qcr,Qfv,Bool.not_true,Bool.not_false,List.length_cons,List.length_nil,Nat.zero_add,Bool.and_true,Qu,Nat.le_refl,mk1,st,le1',le2',l0,l1,l2,s0,s1,m1,m2,m3,m4,m5,ct]
 all_goals rfl
theorem Qus {L M K : List Int} (hL : ∀ n ∈ L,0 ≤ n ∧ n ≤ 255) (hl : L.length ≤ 9223372036854775807) (hM : ∀ n ∈ M,0 ≤ n ∧ n ≤ 255) (hm : M.length ≤ 9223372036854775807) (hK : ∀ n ∈ K,0 ≤ n ∧ n ≤ 255) (hk : K.length ≤ 9223372036854775807) : E Qul [.vs (L.map (V.int .u8)),.vs (M.map (V.int .u8)),.vs (K.map (V.int .u8))] [] = some (.ret (.bool true),[]) := by
 have aw := fun G => D7 G
 rw [Quu,Qup]
 by_cases h : (100 : Int) < (L.length : Int)
 ·have k2 := Quf (L := L.take 100) (fun n hn => hL n (List.mem_of_mem_take hn)) (by simp; omega) hM hm hK hk
  have sl : JO 1 (.vs (L.map (V.int .u8))) none (some (.int .i64 100)) none = some (.vs ((L.take 100).map (V.int .u8))) := by
   rw [UI]
   have h1 : 100 ≤ L.length := by omega
   have h2 : (100 : Int) ≤ (L.length : Int) := by omega
   simp [Vk,QW,List.map_take,h1,h2]
   cases L <;> rfl
  simp only [Qah,Qab,Qbd,Qbc,Qfu,Qfc,Qed,Qgc,decide_true,Bool.not_true,List.length_nil,List.length_map,aw,h,sl,k2]
 ·have k := Quf hL hl hM hm hK hk
  simp only [Qah,Qab,Qbc,Qfu,Qfc,Qed,Qgc,decide_false,Bool.not_true,List.length_nil,List.length_map,aw,h,k]
end Go.Proofs.YtdnmpaielmfiiaaDoor
end
