/- Data: a part of the proof that each law of this seat answers true at every input. No condition. -/
import Derived.Test.YtjnkigaiogjfcaaDoorRows
import Derived.KernelRfl
import Derived.Test.YtjnkigaiogjfcaaDoorEvH
import Derived.Test.YtjnkigaiogjfcaaDoorXa
set_option linter.unusedVariables false
set_option linter.unusedSimpArgs false
set_option maxRecDepth 20000
section
/- From data to values: sets and regular expressions. -/
namespace Go.Proofs.YtjnkigaiogjfcaaDoor
open Go Go.Ev Go.RowKit Go.X7
set_option linter.unusedVariables false
set_option linter.unusedSimpArgs false

section
variable {H : Type} {enc : TypeId × Value → H} {W : World}
end
end Go.Proofs.YtjnkigaiogjfcaaDoor
end

