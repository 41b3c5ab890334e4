/- Ld: a part of the proof that each law of this seat answers true at every input. No condition. -/
import Derived.Test.YtdnmpaielmfiiaaDoorLb
import Derived.Test.YtdnmpaielmfiiaaDoorTf
set_option linter.unusedVariables false
set_option linter.unusedSimpArgs false
set_option maxRecDepth 20000
section
namespace Go.Proofs.YtdnmpaielmfiiaaDoor
open Go Go.Ev Go.X7 Go.Srt
set_option maxRecDepth 20000
theorem Qst : ∀ (t : List UInt8) (x : X),leftX x t = X7.leftX x t
 | [],x => rfl
 | c :: t,x => Qst t _
open Classical in
theorem QtH {x : X} (hr : Rt x) (ho : x.ok) (t : List UInt8) : Zs (leftX x t) = decide (Lg x t) := by
 have h := Qsv t x hr ho
 rw [← Qst] at h
 by_cases hl : Lg x t
 ·rw [h.2 hl]; simp [hl]
 ·cases hb : Zs (leftX x t) with
  | true => exact absurd (h.1 hb) hl
  | false => simp [hl]
open Classical in
theorem QsZ {x : X} (hr : Rt x) (ho : x.ok) {t : List UInt8} (ht : t.length ≤ 1000) (hf : Fin t.length (mX x)) : ∃ b : Bool,b = decide (Lg x t) ∧ (∀ G,E UO [Qd x,.str t] G = some (.ret (.bool b),G)) ∧ ∀ G,E QrM [Qd x,.str t] G = some (.ret (.bool b),G) := by
 refine ⟨_,rfl,fun G => ?_,fun G => ?_⟩
 ·have := R7 ho (t := t) (by omega) (Fx hr hf) G
  rwa [QtH hr ho] at this
 ·have := Fin.size hr hf
  exact QtM (by have e : LIM = 20000000000 := rfl; omega) hr ho ht G
open Classical in
theorem QrU (x : X) : ∃ f : List UInt8 → Bool,∀ u,f u = true ↔ Lg x u := ⟨fun u => decide (Lg x u),fun u => by simp⟩
theorem Qsy {a b : Bool} (h : a = true ↔ b = true) : a = b := by cases a <;> cases b <;> simp_all
end Go.Proofs.YtdnmpaielmfiiaaDoor
end
