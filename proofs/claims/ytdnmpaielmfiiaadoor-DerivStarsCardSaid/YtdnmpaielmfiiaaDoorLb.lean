/- Lb: a part of the proof that each law of this seat answers true at every input. No condition. -/
import Derived.Test.YtdnmpaielmfiiaaDoorLa
import Derived.Test.YtdnmpaielmfiiaaDoorMa
set_option linter.unusedVariables false
set_option linter.unusedSimpArgs false
set_option maxRecDepth 20000
section
namespace Go.Proofs.YtdnmpaielmfiiaaDoor
open Go Go.Ev Go.X7 Go.Srt
set_option maxRecDepth 20000
theorem Fx : ∀ {t : List UInt8} {x : X},Rt x → Fin t.length (mX x) → GdT x t
 | [],x,hr,h => by have := Fin.size hr h; exact this
 | c :: t,x,hr,h => by
  obtain ⟨a,b,d⟩ := Fin.deriv hr h (c.toNat : Int)
  exact ⟨Fin.size hr h,a,Fx b d⟩
theorem Fin.lessN {A : Me} {m : Nat} : ∀ {k : Nat},Fin (m + k) A → Fin m A
 | 0,h => h
 | k + 1,h => Fin.lessN (Fin.less h)
theorem Gx {x : X} (h : Fit 4 x) {k : Nat} (hk : k ≤ 6) : Fin k (mX x) := by
 have h6 := Fin.mono (m := 6) (N := 7) (by omega) (Qh4 h.me) Qln
 obtain ⟨j,hj⟩ : ∃ j,6 = k + j := ⟨6 - k,by omega⟩
 rw [hj] at h6
 exact Fin.lessN h6
theorem PK {H : Qa} {cs : List V} (hc : cs.length = 6) {y : X} : Qs H.length 6 (.var cs :: H) (.ptr H.length 0 0) (Qd y) = some (.tup [],.var (Qd y).cells :: H) := by
 have := Y6 (H := H) (G := .var cs :: H) (t := H.length) (Nat.le_refl _) (cs := cs) (by omega) (ZR _ _) (x := Qd y) (by simp [hc]) (by simp)
 rw [this]; simp [Qn,hc]
end Go.Proofs.YtdnmpaielmfiiaaDoor
end
