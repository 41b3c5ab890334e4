/- Ld: a part of the proof that each law of this seat answers true at every input. No condition. -/
import Derived.Test.YtdnmpaielmfiiaaDoorLb
import Derived.Test.YtdnmpaielmfiiaaDoorTf
set_option linter.unusedVariables false
set_option linter.unusedSimpArgs false
set_option maxRecDepth 20000
section
namespace Go.Proofs.YtdnmpaielmfiiaaDoor
open Go Go.Ev Go.X7 Go.Srt
set_option maxRecDepth 20000
theorem Qst : ∀ (t : List UInt8) (x : X),leftX x t = X7.leftX x t
 | [],x => rfl
 | c :: t,x => Qst t _
open Classical in
theorem QrU (x : X) : ∃ f : List UInt8 → Bool,∀ u,f u = true ↔ Lg x u := ⟨fun u => decide (Lg x u),fun u => by simp⟩
theorem Qsy {a b : Bool} (h : a = true ↔ b = true) : a = b := by cases a <;> cases b <;> simp_all
end Go.Proofs.YtdnmpaielmfiiaaDoor
end
