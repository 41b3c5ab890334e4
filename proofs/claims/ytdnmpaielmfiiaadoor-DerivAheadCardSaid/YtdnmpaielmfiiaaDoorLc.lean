/- Lc: a part of the proof that each law of this seat answers true at every input. No condition. -/
import Derived.Test.YtdnmpaielmfiiaaDoorLb
set_option linter.unusedVariables false
set_option linter.unusedSimpArgs false
set_option maxRecDepth 20000
section
namespace Go.Proofs.YtdnmpaielmfiiaaDoor
open Go Go.Ev Go.X7 Go.Srt
set_option maxRecDepth 20000
theorem QnZ {L M : List Int} (hL : ∀ n ∈ L,0 ≤ n ∧ n ≤ 255) (hl : L.length ≤ 9223372036854775807) (b : Int) (hb : 0 ≤ b ∧ b ≤ 255) (hM : ∀ n ∈ M,0 ≤ n ∧ n ≤ 255) (hm : M.length ≤ 9223372036854775807) : E QgH [.vs (L.map (V.int .u8)),.int .u8 b,.vs (M.map (V.int .u8))] [] = some (.ret (.bool true),[]) := by
 have aw := fun G => D7 G
 obtain ⟨x,hx,mk⟩ := Cu hL hl []
 obtain ⟨t,ht,le⟩ := Dm hM hm (k := 5) (by omega) [.var (Qd x).cells]
 have le' : E VU [.vs (M.map (V.int .u8)),.int .i64 5] [.var (Qd x).cells] = some (.ret (.str t),[.var (Qd x).cells]) := le
 have s0 : Qs 0 6 [zB] (.ptr 0 0 0) (Qd x) = some (.tup [],[.var (Qd x).cells]) := PK (H := []) (cs := zX) (by simp) (y := x)
 have w0 : IntKind.i64.wrap b = b := wrap_i64 (by omega) (by omega)
 have hb4 : 0 ≤ b % 4 ∧ b % 4 < 4 := ⟨Int.emod_nonneg _ (by omega),Int.emod_lt_of_pos _ (by omega)⟩
 have rm : Qb .rem 6 (.int .i64 b) (.int .i64 4) = some (.int .i64 (b % 4)) := by rw [Bq _ _ _ _ (by decide),Int.tmod_eq_emod_of_nonneg hb.1]
 have w1 : IntKind.i64.wrap (97 + b % 4) = 97 + b % 4 := wrap_i64 (by omega) (by omega)
 obtain ⟨c,hc⟩ : ∃ c : UInt8,(c.toNat : Int) = 97 + b % 4 := ⟨UInt8.ofNat (97 + b % 4).toNat,by rw [UInt8.toNat_ofNat']; omega⟩
 rw [← hc] at w1
 have w2 : IntKind.u8.wrap (c.toNat : Int) = (c.toNat : Int) := wrap_u8 (by omega) (by omega)
 have f6 := Gx hx (k := t.length + 1) (by omega)
 have ft := Gx hx (k := 0) (by omega)
 obtain ⟨g1,g2,g3⟩ := Fin.deriv hx.rt f6 (c.toNat : Int)
 have hs := Fin.size hx.rt f6
 have D := fun G => UB 20000000000 x hs (Nat.le_refl _) hx.ok _ g1 G
 have m1 := fun G => R7 (Kc _ hx.ok) (t := t) (by omega) (Fx g2 g3) G
 have m2 := fun G => R7 hx.ok (t := c :: t) (by simp only [List.length_cons]; omega) (Fx hx.rt f6) G
 have m3 := fun G => R7 hx.ok (t := []) (by simp) (Fx hx.rt ft) G
 have nl := fun G => UC 20000000000 x hs (by omega) G
 have e2 : VR x (c :: t) = VR (Qo (c.toNat : Int) x) t := rfl
 have e3 : VR x [] = x := rfl
 rw [e2] at m2
 rw [e3] at m3
 have ld := DF (H := []) (x := x)
 simp only [List.length_nil] at ld
 have lt : Zq 1 1 (.int .u8 0) [(0,.int .u8 (c.toNat : Int))] = some (.vs [.int .u8 (c.toNat : Int)]) := by rw [WA]; rfl
 have tx : JV [.var (Qd x).cells] (.vs [.int .u8 (c.toNat : Int)]) = some (.str [c]) := QbQ (s := [c])
 have ct : Qb .add 6 (.str [c]) (.str t) = some (.str (c :: t)) := Z3 _ _ _ (by simp only [List.length_cons,List.length_nil]; omega)
 generalize VR (Qo (c.toNat : Int) x) t = z at m1 m2
 rw [Qjj,Qh8]
 simp only [Qah,Qag,Qab,Qbc,Qci,Qhd,Qgm,Qfm,Qfr,Qfu,Qey,Qdx,Qdz,Qgc,Qan,Qgo,Qgn,Qgs,Qgy,Qcr,Qfv,Bool.not_true,List.length_nil,Bool.and_true,beq_self_eq_true,Nat.le_refl,aw,mk,s0,le',w0,rm,← hc,w1,w2,ld,D,m1,m2,m3,nl,lt,tx,ct]
 cases Zs z <;> cases Zs x <;> rfl
end Go.Proofs.YtdnmpaielmfiiaaDoor
end
