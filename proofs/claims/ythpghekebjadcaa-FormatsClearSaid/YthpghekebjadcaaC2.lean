/- C2: a part of the proof that each law of this seat answers true at every input. No condition. -/
import Derived.Test.YthpghekebjadcaaCf
import Derived.KernelRfl
set_option linter.unusedVariables false
set_option linter.unusedSimpArgs false
set_option maxRecDepth 20000
section
namespace Go.Proofs.Ythpghekebjadcaa
open Go Go.Ev
theorem QxP (H : Qa) : E Nm [QxI] H = some (.ret QxJ,H) := QxQ (fun a H hc hH => VY (by kernel_rfl) hc hH) (by kernel_rfl) (by kernel_rfl) (kev QxO) H
theorem QxM : Be Nn Nm (QxK [QxI] QxJ) 200 Vo [.int .u8 2] [] = some (.ret (.bool true),[]) := by kernel_rfl
theorem Qob : E Vo [.int .u8 2] [] = some (.ret (.bool true),[]) := QxG QnN (QxN QxP) 200 _ _ _ _ QxM
end Go.Proofs.Ythpghekebjadcaa
end
