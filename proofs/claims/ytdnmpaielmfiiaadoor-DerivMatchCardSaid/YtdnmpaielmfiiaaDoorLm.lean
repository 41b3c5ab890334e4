/- Lm: a part of the proof that each law of this seat answers true at every input. No condition. -/
import Derived.Test.YtdnmpaielmfiiaaDoorLd
import Derived.Test.YtdnmpaielmfiiaaDoorFnM
set_option linter.unusedVariables false
set_option linter.unusedSimpArgs false
set_option maxRecDepth 20000
section
namespace Go.Proofs.YtdnmpaielmfiiaaDoor
open Go Go.Ev Go.X7 Go.Srt
set_option maxRecDepth 20000
theorem Qt1 {L M : List Int} (hL : ∀ n ∈ L,0 ≤ n ∧ n ≤ 255) (hl : L.length ≤ 9223372036854775807) (hM : ∀ n ∈ M,0 ≤ n ∧ n ≤ 255) (hm : M.length ≤ 9223372036854775807) : E QsQ [.vs (L.map (V.int .u8)),.vs (M.map (V.int .u8))] [] = some (.ret (.bool true),[]) := by
 have aw := fun G => D7 G
 obtain ⟨x,hx,mk⟩ := Cu hL hl []
 obtain ⟨t,ht,le⟩ := Dm hM hm (k := 6) (by omega) [.var (Qd x).cells]
 have le' : E VU [.vs (M.map (V.int .u8)),.int .i64 6] [.var (Qd x).cells] = some (.ret (.str t),[.var (Qd x).cells]) := le
 have s0 : Qs 0 6 [zB] (.ptr 0 0 0) (Qd x) = some (.tup [],[.var (Qd x).cells]) := PK (H := []) (cs := zX) (by simp) (y := x)
 have ld := DF (H := []) (x := x)
 simp only [List.length_nil] at ld
 obtain ⟨b,_,m1,m2⟩ := QsZ hx.rt hx.ok (t := t) (by omega) (Gx hx ht)
 rw [QtK,QtS]
 simp only [Qah,Qag,Qab,Qci,Qhd,Qgm,Qfm,Qfr,Qdz,Qgc,Qan,Qgo,Qgn,Qgs,Qgy,Qcr,Qfv,List.length_nil,Bool.and_true,beq_self_eq_true,Nat.le_refl,aw,mk,s0,le',ld,m1,m2]
 cases b <;> rfl
end Go.Proofs.YtdnmpaielmfiiaaDoor
end
