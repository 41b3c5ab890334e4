/- C1: a part of the proof that each law of this seat answers true at every input. No condition. -/
import Derived.Test.YthpghekebjadcaaKm
import Derived.KernelRfl
set_option linter.unusedVariables false
set_option linter.unusedSimpArgs false
set_option maxRecDepth 20000
section
namespace Go.Proofs.Ythpghekebjadcaa
open Go Go.Ev
theorem QrL : BV Nn 200 Vo [.int .u8 1] [] = some (.ret (.bool true),[]) := by kernel_rfl
end Go.Proofs.Ythpghekebjadcaa
end
