/- Ke: a part of the proof that each law of this seat answers true at every input. No condition. -/
import Derived.Test.YthpghekebjadcaaHint
import Derived.Test.YthpghekebjadcaaKy
import Derived.KernelRfl
set_option linter.unusedVariables false
set_option linter.unusedSimpArgs false
set_option maxRecDepth 20000
section
namespace Go.Proofs.Ythpghekebjadcaa
open Go Go.Ev
noncomputable section
def Qd8 : Y9 := fun r a H => iRd LA a H
theorem Ql2 : KOk E C5 Qd8 := fun r hr a H => KLe.of (Qoi (by kernel_rfl) (by kernel_rfl) (by kernel_rfl)).symm
end
end Go.Proofs.Ythpghekebjadcaa
end
