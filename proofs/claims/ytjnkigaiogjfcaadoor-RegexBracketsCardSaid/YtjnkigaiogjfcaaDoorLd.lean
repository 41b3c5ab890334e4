/- Ld: a part of the proof that each law of this seat answers true at every input. No condition. -/
import Derived.Test.YtjnkigaiogjfcaaDoorMa
set_option linter.unusedVariables false
set_option linter.unusedSimpArgs false
set_option maxRecDepth 20000
section
/- The law: what these make of what is right is right. -/
namespace Go.Proofs.YtjnkigaiogjfcaaDoor
open Go Go.Ev Go.X7 Go.Srt
set_option linter.unusedVariables false
set_option linter.unusedSimpArgs false
set_option maxRecDepth 20000

theorem few_sizes {l : List X} {d : Nat} (h : ∀ x ∈ l, Fit d x) (hl : l.length ≤ 4) (hd : d ≤ 3) : sizes l ≤ 1024 := by
 have h1 := sizes_le fun x hx => (h x hx).size
 have h2 := Nat.pow_le_pow_right (n := 4) (by omega) (show d + 1 ≤ 4 by omega)
 have h3 := Nat.mul_le_mul hl h2
 omega
end Go.Proofs.YtjnkigaiogjfcaaDoor
end

